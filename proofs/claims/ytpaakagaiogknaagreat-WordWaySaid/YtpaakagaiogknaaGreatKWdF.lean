
/- Words: WordWay's law. -/
import Derived.Test.YtpaakagaiogknaaGreatKWdE
set_option linter.all false
set_option linter.deprecated false
namespace Go.Am
variable {oc : Orc} [OrcI oc]
open Go.Proofs
set_option maxRecDepth 8000
set_option maxHeartbeats 8000000
section
variable {A : AV} {es : List (List AV)} {ls : List (List Ce)}

/-- Beginnings, one behind the other. -/
structure Way (L : List (List Ce)) (l : List (Nat × Nat)) (s : Nat × Nat) : Prop where
  ha : ∀ j, j < l.length → Edge false L (l.getD j (0, 0))
  hn : ∀ j, j + 1 < l.length → IsNext false L (l.getD j (0, 0)) (l.getD (j + 1) (0, 0))
  hf : 0 < l.length → IsNext false L (0, 0) (l.getD 0 (0, 0))
  hs : s = if l.length = 0 then (0, 0) else l.getD (l.length - 1) (0, 0)
  hb : l.length ≤ s.1 * 50 + s.2
theorem getD_last {α : Type} (l : List α) (x d : α) (j : Nat) : (l ++ [x]).getD j d = if j < l.length then l.getD j d else if j = l.length then x else d := getD_app1
theorem Way.nil {L : List (List Ce)} : Way L [] (0, 0) := ⟨fun j h => absurd h (Nat.not_lt_zero _), fun j h => absurd h (Nat.not_lt_zero _), fun h => absurd h (Nat.lt_irrefl _), rfl, Nat.le_refl _⟩
theorem Way.step {L : List (List Ce)} {l : List (Nat × Nat)} {s r : Nat × Nat} (h : Way L l s) (hn : IsNext false L s r) (he : Edge false L r) (hl : ltP s r) (h50 : s.2 < 50) : Way L (l ++ [r]) r := by
  have e1 : (l ++ [r]).length = l.length + 1 := by rw [List.length_append]; rfl
  have e2 : ∀ j, j < l.length → (l ++ [r]).getD j (0, 0) = l.getD j (0, 0) := fun j hj => by rw [getD_last, if_pos hj]
  have e3 : (l ++ [r]).getD l.length (0, 0) = r := by rw [getD_last, if_neg (Nat.lt_irrefl _), if_pos rfl]
  have hs := h.hs
  refine ⟨fun j hj => ?_, fun j hj => ?_, fun _ => ?_, ?_, ?_⟩
  · rw [e1] at hj
    by_cases q : j < l.length
    · rw [e2 j q]; exact h.ha j q
    · have : j = l.length := by omega
      subst this; rw [e3]; exact he
  · rw [e1] at hj
    by_cases q : j + 1 < l.length
    · rw [e2 j (by omega), e2 (j + 1) q]; exact h.hn j q
    · have q2 : j + 1 = l.length := by omega
      rw [e2 j (by omega), q2, e3]
      rw [if_neg (by omega)] at hs
      have q3 : l.length - 1 = j := by omega
      rw [q3] at hs
      rw [← hs]; exact hn
  · by_cases q : l.length = 0
    · rw [if_pos q] at hs
      have : (l ++ [r]).getD 0 (0, 0) = r := by rw [getD_last, if_neg (by omega), if_pos q.symm]
      rw [this, ← hs]; exact hn
    · rw [e2 0 (by omega)]; exact h.hf (by omega)
  · rw [if_neg (by omega), e1, Nat.add_sub_cancel, e3]
  · have := h.hb
    unfold ltP at hl
    rw [e1]
    omega
theorem endS_no {L : List (List Ce)} {last : Bool} : ¬ Edge last L (endS L) := fun h => Nat.lt_irrefl _ h.2.1
theorem Edge.ltE {L : List (List Ce)} {last : Bool} {e : Nat × Nat} (h : Edge last L e) : ltP e (endS L) := by
  have h1 := h.1
  have h2 := h.2.1
  unfold ltP endS
  dsimp only
  by_cases q : e.1 = L.length - 1
  · rw [q] at h2; exact .inr ⟨q, h2⟩
  · exact .inl (by omega)
def backS (L : List (List Ce)) (l : List (Nat × Nat)) (q : Nat) : Nat × Nat := if q = l.length then endS L else l.getD q (0, 0)
theorem Way.prev {L : List (List Ce)} {l : List (Nat × Nat)} {s : Nat × Nat} (h : Way L l s) (hn : IsNext false L s (endS L)) {n : Nat} (hq : n < l.length) : IsPrev L (backS L l (n + 1)) (l.getD n (0, 0)) := by
  have hs := h.hs
  have hno : ∀ e, Edge false L e → ¬ ltP s e := by
    rcases hn with ⟨h1, _, _⟩ | ⟨h1, _⟩
    · exact absurd h1 endS_no
    · exact h1
  unfold backS
  by_cases q : n + 1 = l.length
  · rw [if_pos q]
    rw [if_neg (by omega)] at hs
    have q3 : l.length - 1 = n := by omega
    rw [q3] at hs
    rw [← hs]
    refine .inl ⟨by rw [hs]; exact h.ha n hq, by rw [hs]; exact (h.ha n hq).ltE, fun e h1 _ => hno e h1⟩
  · rw [if_neg q]
    have hN := h.hn n (by omega)
    refine .inl ⟨h.ha n hq, ?_, fun e h1 h2 h3 => ?_⟩
    · rcases hN with ⟨_, h2, _⟩ | ⟨_, h2⟩
      · exact h2
      · exact absurd (by rw [← h2]; exact h.ha (n + 1) (by omega)) (endS_no (L := L) (last := false))
    · rcases hN with ⟨_, _, h4⟩ | ⟨h4, _⟩
      · exact h4 e h1 h3 h2
      · exact h4 e h1 h3
theorem backS_in {L : List (List Ce)} {l : List (Nat × Nat)} {s : Nat × Nat} (h : Way L l s) (hz : L.length ≠ 0) {q : Nat} (hq : q ≤ l.length) : (backS L l q).1 < L.length ∧ (backS L l q).2 ≤ (L.getD (backS L l q).1 []).length := by
  unfold backS
  by_cases e : q = l.length
  · rw [if_pos e]
    exact ⟨by unfold endS; dsimp only; omega, Nat.le_refl _⟩
  · rw [if_neg e]
    have := h.ha q (by omega)
    exact ⟨this.1, Nat.le_of_lt this.2.1⟩
theorem WordWay_law (hbe : ∀ ys lo H, CallR (ELo oc) ys lo 8 [] H (.v (.bool true)) H ⟨0, 0, 0⟩) (hA : Sl 1 A es) (hB : LsB es ls) (hl : es.length < 2 ^ 63) : WC (ELo oc) [] 0 4 [A] .empty fun x _ => x = .v (.bool true) := by
  generalize hEm : AHeap.empty = H0
  have hLs := fun ys G => Lines_run (ys := ys) (lo := 0) (H := G) (.inl hA) hB hl
  refine zvin Tryz.func4 Tryz.ntmps4 ?_
  repeat' (first | refine zka ?_ | refine zkb ?_ | (apply RKp.op; ((try simp (disch := (first | omega | exact zX | exact zO | fail)) only [go_sem, Nat.reduceDiv, Nat.reduceMod, Nat.reduceAdd, Nat.reduceSub, Nat.reduceEqDiff, Nat.reduceLeDiff, Nat.reduceLT, Nat.reduceMul, reduceIte, Nat.reducePow, Int.reduceEq]); exact zL); rfl) | (apply RKp.call; (apply hbe <;> (exact zD)); rfl) | (apply RKp.callR; (apply hbe <;> (exact zD)); rfl; intro tr htr) | (apply RKp.callO; (apply hbe <;> (exact zD)); rfl; intro tr) | (apply RKp.callRE; ((first | apply hbe | apply hLs) <;> (exact zD)); (intro x; rfl)) | (apply RKp.callE; (apply hbe <;> (exact zD)); (intro x; rfl)) | refine zkc ?_ | apply RKg.tt | apply RKg.ff | refine zkd ?_ | refine zke ?_ | refine zkf ?_ | (refine RKg.split (fun h => ?_) (fun h => ?_) <;> (try rw [h]) <;> (replace h := zB h) <;> (try (exfalso; first | exact h | omega))) | apply RK.nil | apply V.sq | apply V.bl | apply V.sc | apply V.skip | apply V.label | apply V.ret | apply V.exit | apply SeqQ.normal | apply SeqQ.ret | apply SeqQ.exit | apply BlockQ.normal | apply BlockQ.ret | apply BlockQ.here | refine zbt ?_ | apply LoopS.ret | apply LoopS.exit | apply LoopF.ret | apply LoopF.exit | apply V.regK | refine zva ?_ | refine zvb ?_ | refine zgc ?_ | refine zvd ?_ | refine zve ?_ | (refine zvf (fun h => ?_) (fun h => ?_) <;> (replace h := zB h) <;> (try (exfalso; first | exact h | omega))) | (refine zfc Tryz.results4 ?_; (try dsimp only)))
  rintro x tr htr ⟨es', hx, hls⟩
  obtain ⟨hl1, hl2⟩ := lines_bd ls
  have hl10 := linesL_len ls
  generalize linesL ls = L at *
  have hl3 : ∀ j, j < L.length → (L.getD j []).length < 2 ^ 20 := fun j hj => by have := hl2 j hj; omega
  have hz1 : rdTr x = ⟨0, 0, 0⟩ := by rcases hx with rfl | ⟨_, rfl | rfl⟩ <;> rfl
  have lnL : ∀ G, primL 0 G (builtinA (ELo oc) .len #[22] 3 [x]) = some (.v (.int .i64 L.length), G, ⟨0, 0, 0⟩) := fun G => by rw [lenL 0 (.inl hx) hls G (Ext.refl _), hz1]
  have ixLz : ∀ G (z : Int), 0 ≤ z → z < L.length → primL 0 G (indexAddrA (ELo oc) 22 x (.v (.int .i64 z))) = some (ixA x es' z.toNat, G, ⟨0, 0, 0⟩) := fun G z z0 z1 => by rw [ixL 0 (.inl hx) hls G (Ext.refl _) .i64 z z0 z1, hz1]
  have ldLz : ∀ G j, j < L.length → primL 0 G (loadA (ELo oc) 33 (ixA x es' j)) = some (bOf es' j, G, ⟨0, 0, 0⟩) := fun G j hj => by rw [ldL 0 (.inl hx) hls G (Ext.refl _) j hj, hz1]
  have lnC : ∀ G j, j < L.length → primL 0 G (builtinA (ELo oc) .len #[33] 3 [bOf es' j]) = some (.v (.int .i64 (L.getD j []).length), G, ⟨0, 0, 0⟩) := fun G j hj => by
    have hs := hls.sl j hj
    rw [len_cell 0 (.inl hs)]
    have : rdTr (bOf es' j) = ⟨0, 0, 0⟩ := by rcases hs with h | ⟨_, h | h⟩ <;> rw [h] <;> rfl
    rw [this]
  by_cases hz : L.length = 0
  · repeat' (first | refine zka ?_ | refine zkb ?_ | (apply RKp.op; ((try simp (disch := (first | omega | exact zX | exact zO | fail)) only [lnL, go_sem, Nat.reduceDiv, Nat.reduceMod, Nat.reduceAdd, Nat.reduceSub, Nat.reduceEqDiff, Nat.reduceLeDiff, Nat.reduceLT, Nat.reduceMul, reduceIte, Nat.reducePow, Int.reduceEq]); exact zL); rfl) | refine zkc ?_ | apply RKg.tt | apply RKg.ff | refine zkd ?_ | refine zke ?_ | refine zkf ?_ | (refine RKg.split (fun h => ?_) (fun h => ?_) <;> (try rw [h]) <;> (replace h := zB h) <;> (try (exfalso; first | exact h | omega))) | apply RK.nil | apply V.sq | apply V.bl | apply V.sc | apply V.skip | apply V.label | apply V.ret | apply V.exit | apply SeqQ.normal | apply SeqQ.ret | apply SeqQ.exit | apply BlockQ.normal | apply BlockQ.ret | apply BlockQ.here | refine zbt ?_ | apply LoopS.ret | apply LoopS.exit | apply LoopF.ret | apply LoopF.exit | apply V.regK | refine zva ?_ | refine zvb ?_ | refine zgc ?_ | refine zvd ?_ | refine zve ?_ | (refine zvf (fun h => ?_) (fun h => ?_) <;> (replace h := zB h) <;> (try (exfalso; first | exact h | omega))) | (refine zfc Tryz.results4 ?_; (try dsimp only)))
    all_goals first
      | rfl
      | (exfalso; omega)
  · have lnE := fun G => lnC G (L.length - 1) (by omega)
    have hl5 := hl3 (L.length - 1) (by omega)
    have hE1 : ((L.length : Int) - 1).toNat = L.length - 1 := by omega
    have ez : ((L.length : Int) - 1) = ((L.length - 1 : Nat) : Int) := by omega
    repeat' (first | refine zka ?_ | refine zkb ?_ | (apply RKp.op; ((try simp (disch := (first | omega | exact zX | exact zO | fail)) only [lnL, ixLz, ldLz, lnE, hE1, go_sem, Nat.reduceDiv, Nat.reduceMod, Nat.reduceAdd, Nat.reduceSub, Nat.reduceEqDiff, Nat.reduceLeDiff, Nat.reduceLT, Nat.reduceMul, reduceIte, Nat.reducePow, Int.reduceEq]); exact zL); rfl) | refine zkc ?_ | apply RKg.tt | apply RKg.ff | refine zkd ?_ | refine zke ?_ | refine zkf ?_ | (refine RKg.split (fun h => ?_) (fun h => ?_) <;> (try rw [h]) <;> (replace h := zB h) <;> (try (exfalso; first | exact h | omega))) | apply RK.nil | apply V.sq | apply V.bl | apply V.sc | apply V.skip | apply V.label | apply V.ret | apply V.exit | apply SeqQ.normal | apply SeqQ.ret | apply SeqQ.exit | apply BlockQ.normal | apply BlockQ.ret | apply BlockQ.here | refine zbt ?_ | apply LoopS.ret | apply LoopS.exit | apply LoopF.ret | apply LoopF.exit | apply V.regK | refine zva ?_ | refine zvb ?_ | refine zgc ?_ | refine zvd ?_ | refine zve ?_ | (refine zvf (fun h => ?_) (fun h => ?_) <;> (replace h := zB h) <;> (try (exfalso; first | exact h | omega))) | (refine zfc Tryz.results4 ?_; (try dsimp only)))
    apply V.lpS [6, 5, 2, 7, 30, 31, 32, 33, 34, 35, 36, 37, 38, 39, 40, 41, 42, 43, 44, 45, 46, 47, 48, 49, 50, 51, 52, 53, 54, 55, 56, 57, 58, 59, 60, 61, 62, 63] (fun k xs H2 => ∃ (m : Nat) (y : AV) (g : _) (l : List (Nat × Nat)) (s : Nat × Nat), xs = .op m 0 0 0 :: y :: g ∧ k = 500 - l.length ∧ l.length < 500 ∧ OwS H2 (H0.next + 1) 24 3 y (spE l) ∧ ¬ nmO y m ∧ H0.next + 1 ≤ m ∧ m < H2.next ∧ H2.get m = some (spB s.1 s.2 0) ∧ H2.get H0.next = some (spB (endS L).1 (endS L).2 0) ∧ Way L l s ∧ s.1 < L.length ∧ s.2 ≤ (L.getD s.1 []).length) 500
    focus (intro xs; simp only [putMany, set2, Nat.reduceAdd, Nat.reduceDiv, Nat.reduceMod, nth_zero, nth_succ, List.set_cons_zero, List.set_cons_succ]; rfl)
    focus (first | rfl | simp only [readMany, nth_zero, nth_succ, Nat.reduceDiv, Nat.reduceMod])
    · refine ⟨H0.next + 1, _, _, [], (0, 0), rfl, rfl, by decide, OwS.nil _ _ _ _, fun z => ?_, Nat.le_refl _, ?_, ?_, ?_, ?_, ?_, ?_⟩
      · obtain ⟨_, _, _, e⟩ := z; cases e
      · (first | omega | (simp only [next_push, next_set, next_empty]; done) | (simp only [next_push, next_set, next_empty]; omega))
      · simp (disch := (first | omega | exact zX | fail)) only [get_set, get_push, next_push, next_set, if_pos', if_neg', if_true, if_false, reduceIte]; rfl
      · unfold endS
        rw [← ez]
        simp (disch := (first | omega | exact zX | fail)) only [get_set, get_push, next_push, next_set, if_pos', if_neg', if_true, if_false, reduceIte]
      · exact Way.nil
      · exact Nat.pos_of_ne_zero hz
      · exact Nat.zero_le _
    · rintro k xs H2 ⟨m, y, g, l, s, rfl, rfl, hll, ho, hnm, hm1, hm2, g1, g0, hW, hs1, hs2⟩
      have hN := fun ys G => Next_run (ys := ys) (lo := 0) (H := G) hx hls hl1 hl3 s 0 hs1 hs2
      have hy := ho.slh
      have lnY : ∀ G, Ext H2 G → primL 0 G (builtinA (ELo oc) .len #[34] 3 [y]) = some (.v (.int .i64 l.length), G, rdTr y) := fun G hG => by
        have := len_SlH (ELo oc) 0 34 3 (hy.ext hG) (by kernel_rfl)
        rw [spE_len] at this; exact this
      have ixY : ∀ G, Ext H2 G → ∀ (z : Int), 0 ≤ z → z < l.length → primL 0 G (indexAddrA (ELo oc) 34 y (.v (.int .i64 z))) = some (ixA y (spE l) z.toNat, G, rdTr y) := fun G hG z z0 z1 => ix_SlH (ELo oc) 0 34 .i64 z (hy.ext hG) (by kernel_rfl) z0 (by rw [spE_len]; exact z1)
      have ldY : ∀ G, Ext H2 G → ∀ j, j < l.length → primL 0 G (loadA (ELo oc) 24 (ixA y (spE l) j)) = some (.agg [.v (.int .i64 ((l.getD j (0, 0)).1 : Int)), .v (.int .i64 ((l.getD j (0, 0)).2 : Int)), .v (.int .i64 0)], G, rdTr y) := fun G hG j hj => by
        rw [load_SlH (ELo oc) 0 24 j (hy.ext hG) (by rw [spE_len]; exact hj), nth_spE l j hj]; rfl
      have lnY0 := lnY H2 (Ext.refl _)
      repeat' (first | refine zka ?_ | refine zkb ?_ | (apply RKp.op; ((try simp (disch := (first | omega | exact zX | exact zO | fail)) only [lnY0, g0, g1, go_sem, Nat.reduceDiv, Nat.reduceMod, Nat.reduceAdd, Nat.reduceSub, Nat.reduceEqDiff, Nat.reduceLeDiff, Nat.reduceLT, Nat.reduceMul, reduceIte, Nat.reducePow, Int.reduceEq]); exact zL); rfl) | (apply RKp.callRE; (apply hN <;> (exact zD)); (intro x; rfl)) | refine zkc ?_ | apply RKg.tt | apply RKg.ff | refine zkd ?_ | refine zke ?_ | refine zkf ?_ | (refine RKg.split (fun h => ?_) (fun h => ?_) <;> (try rw [h]) <;> (replace h := zB h) <;> (try (exfalso; first | exact h | omega))) | apply RK.nil | apply V.sq | apply V.bl | apply V.sc | apply V.skip | apply V.label | apply V.ret | apply V.exit | apply SeqQ.normal | apply SeqQ.ret | apply SeqQ.exit | apply BlockQ.normal | apply BlockQ.ret | apply BlockQ.here | refine zbt ?_ | apply LoopS.ret | apply LoopS.exit | apply LoopF.ret | apply LoopF.exit | apply V.regK | refine zva ?_ | refine zvb ?_ | refine zgc ?_ | refine zvd ?_ | refine zve ?_ | (refine zvf (fun h => ?_) (fun h => ?_) <;> (replace h := zB h) <;> (try (exfalso; first | exact h | omega))) | (refine zfc Tryz.results4 ?_; (try dsimp only)))
      rintro x1 tr1 htr1 ⟨r1, rfl, n1⟩
      unfold spotA
      by_cases hend : r1 = endS L
      · subst hend
        have heq : ((((endS L).1 : Int) == ((endS L).1 : Nat) && (((endS L).2 : Int) == ((endS L).2 : Nat) && ((0 : Int) == 0 && true))) != false) = true := by simp
        repeat' (first | refine zka ?_ | refine zkb ?_ | (apply RKp.op; ((try simp (disch := (first | omega | exact zX | exact zO | fail)) only [g0, g1, heq, go_sem, Nat.reduceDiv, Nat.reduceMod, Nat.reduceAdd, Nat.reduceSub, Nat.reduceEqDiff, Nat.reduceLeDiff, Nat.reduceLT, Nat.reduceMul, reduceIte, Nat.reducePow, Int.reduceEq]); exact zL); rfl) | refine zkc ?_ | apply RKg.tt | apply RKg.ff | refine zkd ?_ | refine zke ?_ | refine zkf ?_ | (refine RKg.split (fun h => ?_) (fun h => ?_) <;> (try rw [h]) <;> (replace h := zB h) <;> (try (exfalso; first | exact h | omega))) | apply RK.nil | apply V.sq | apply V.bl | apply V.sc | apply V.skip | apply V.label | apply V.ret | apply V.exit | apply SeqQ.normal | apply SeqQ.ret | apply SeqQ.exit | apply BlockQ.normal | apply BlockQ.ret | apply BlockQ.here | refine zbt ?_ | apply LoopS.ret | apply LoopS.exit | apply LoopF.ret | apply LoopF.exit | apply V.regK | refine zva ?_ | refine zvb ?_ | refine zgc ?_ | refine zvd ?_ | refine zve ?_ | (refine zvf (fun h => ?_) (fun h => ?_) <;> (replace h := zB h) <;> (try (exfalso; first | exact h | omega))) | (refine zfc Tryz.results4 ?_; (try dsimp only)))
        all_goals first
          | (exfalso; exact absurd (heq.symm.trans ‹_›) (by decide))
          | skip
        generalize hG0 : H2.push (spB ((endS L).1 : Nat) ((endS L).2 : Nat) 0) = G0 at *
        have hxG : Ext H2 G0 := by rw [← hG0]; exact (Ext.refl _).push _
        have hnG : G0.next = H2.next + 1 := by rw [← hG0]; rfl
        have g00 : G0.get H0.next = some (spB (endS L).1 (endS L).2 0) := by rw [hxG.get _ (by omega)]; exact g0
        have lnY1 := fun b => lnY (G0.push b) (hxG.push _)
        repeat' (first | refine zka ?_ | refine zkb ?_ | (apply RKp.op; ((try simp (disch := (first | omega | exact zX | exact zO | fail)) only [lnY1, g00, go_sem, Nat.reduceDiv, Nat.reduceMod, Nat.reduceAdd, Nat.reduceSub, Nat.reduceEqDiff, Nat.reduceLeDiff, Nat.reduceLT, Nat.reduceMul, reduceIte, Nat.reducePow, Int.reduceEq]); exact zL); rfl) | refine zkc ?_ | apply RKg.tt | apply RKg.ff | refine zkd ?_ | refine zke ?_ | refine zkf ?_ | (refine RKg.split (fun h => ?_) (fun h => ?_) <;> (try rw [h]) <;> (replace h := zB h) <;> (try (exfalso; first | exact h | omega))) | apply RK.nil | apply V.sq | apply V.bl | apply V.sc | apply V.skip | apply V.label | apply V.ret | apply V.exit | apply SeqQ.normal | apply SeqQ.ret | apply SeqQ.exit | apply BlockQ.normal | apply BlockQ.ret | apply BlockQ.here | refine zbt ?_ | apply LoopS.ret | apply LoopS.exit | apply LoopF.ret | apply LoopF.exit | apply V.regK | refine zva ?_ | refine zvb ?_ | refine zgc ?_ | refine zvd ?_ | refine zve ?_ | (refine zvf (fun h => ?_) (fun h => ?_) <;> (replace h := zB h) <;> (try (exfalso; first | exact h | omega))) | (refine zfc Tryz.results4 ?_; (try dsimp only)))
        apply V.lpS [9, 2, 68, 69, 70, 71, 72, 73, 74, 75, 76, 77, 78, 79, 80] (fun k xs H5 => ∃ (q : Nat) (g : _), xs = .v (.int .i64 ((q : Int) - 1)) :: g ∧ k = q ∧ q ≤ l.length ∧ Ext H2 H5 ∧ H2.next + 1 < H5.next ∧ H5.get (H2.next + 1) = some (spB (backS L l q).1 (backS L l q).2 0)) l.length
        focus (intro xs; simp only [putMany, set2, Nat.reduceAdd, Nat.reduceDiv, Nat.reduceMod, nth_zero, nth_succ, List.set_cons_zero, List.set_cons_succ]; rfl)
        focus (first | rfl | simp only [readMany, nth_zero, nth_succ, Nat.reduceDiv, Nat.reduceMod])
        · refine ⟨l.length, _, rfl, rfl, Nat.le_refl _, hxG.push _, by (first | omega | (simp only [next_push, next_set, next_empty]; done) | (simp only [next_push, next_set, next_empty]; omega)), ?_⟩
          unfold backS
          rw [if_pos rfl]
          simp (disch := (first | omega | exact zX | fail)) only [get_set, get_push, next_push, next_set, if_pos', if_neg', if_true, if_false, reduceIte]
        · rintro k xs H5 ⟨q, g, rfl, hkq, hq, hx5, hn5, g5⟩
          by_cases hq0 : q = 0
          · subst hq0
            repeat' (first | refine zka ?_ | refine zkb ?_ | (apply RKp.op; ((try simp (disch := (first | omega | exact zX | exact zO | fail)) only [go_sem, Nat.reduceDiv, Nat.reduceMod, Nat.reduceAdd, Nat.reduceSub, Nat.reduceEqDiff, Nat.reduceLeDiff, Nat.reduceLT, Nat.reduceMul, reduceIte, Nat.reducePow, Int.reduceEq]); exact zL); rfl) | refine zkc ?_ | apply RKg.tt | apply RKg.ff | refine zkd ?_ | refine zke ?_ | refine zkf ?_ | (refine RKg.split (fun h => ?_) (fun h => ?_) <;> (try rw [h]) <;> (replace h := zB h) <;> (try (exfalso; first | exact h | omega))) | apply RK.nil | apply V.sq | apply V.bl | apply V.sc | apply V.skip | apply V.label | apply V.ret | apply V.exit | apply SeqQ.normal | apply SeqQ.ret | apply SeqQ.exit | apply BlockQ.normal | apply BlockQ.ret | apply BlockQ.here | refine zbt ?_ | apply LoopS.ret | apply LoopS.exit | apply LoopF.ret | apply LoopF.exit | apply V.regK | refine zva ?_ | refine zvb ?_ | refine zgc ?_ | refine zvd ?_ | refine zve ?_ | (refine zvf (fun h => ?_) (fun h => ?_) <;> (replace h := zB h) <;> (try (exfalso; first | exact h | omega))) | (refine zfc Tryz.results4 ?_; (try dsimp only)))
            all_goals first
              | (exfalso; omega)
              | rfl
          · obtain ⟨n, rfl⟩ : ∃ n, q = n + 1 := ⟨q - 1, by omega⟩
            have en : ((n + 1 : Nat) : Int) - 1 = (n : Int) := by omega
            rw [en]
            obtain ⟨b1, b2⟩ := backS_in hW hz hq
            have hpv := hW.prev n1 (show n < l.length by omega)
            have hP := fun ys G => Prev_run (ys := ys) (lo := 0) (H := G) hx hls hl1 hl3 (backS L l (n + 1)) 0 b1 b2
            have hx6 : ∀ b, Ext H2 (H5.set (H2.next + 1) b) := fun b => ⟨by rw [next_set]; exact hx5.next, fun k hk => by rw [get_set, if_neg (by omega)]; exact hx5.get k hk⟩
            have ixY1 := fun b => ixY _ (hx6 b)
            have ldY1 := fun b => ldY _ (hx6 b)
            repeat' (first | refine zka ?_ | refine zkb ?_ | (apply RKp.op; ((try simp (disch := (first | omega | exact zX | exact zO | fail)) only [g5, go_sem, Nat.reduceDiv, Nat.reduceMod, Nat.reduceAdd, Nat.reduceSub, Nat.reduceEqDiff, Nat.reduceLeDiff, Nat.reduceLT, Nat.reduceMul, reduceIte, Nat.reducePow, Int.reduceEq]); exact zL); rfl) | (apply RKp.callRE; (apply hP <;> (exact zD)); (intro x; rfl)) | refine zkc ?_ | apply RKg.tt | apply RKg.ff | refine zkd ?_ | refine zke ?_ | refine zkf ?_ | (refine RKg.split (fun h => ?_) (fun h => ?_) <;> (try rw [h]) <;> (replace h := zB h) <;> (try (exfalso; first | exact h | omega))) | apply RK.nil | apply V.sq | apply V.bl | apply V.sc | apply V.skip | apply V.label | apply V.ret | apply V.exit | apply SeqQ.normal | apply SeqQ.ret | apply SeqQ.exit | apply BlockQ.normal | apply BlockQ.ret | apply BlockQ.here | refine zbt ?_ | apply LoopS.ret | apply LoopS.exit | apply LoopF.ret | apply LoopF.exit | apply V.regK | refine zva ?_ | refine zvb ?_ | refine zgc ?_ | refine zvd ?_ | refine zve ?_ | (refine zvf (fun h => ?_) (fun h => ?_) <;> (replace h := zB h) <;> (try (exfalso; first | exact h | omega))) | (refine zfc Tryz.results4 ?_; (try dsimp only)))
            rintro x2 tr2 htr2 ⟨r2, rfl, n2⟩
            obtain rfl := n2.uniq hpv
            unfold spotA
            repeat' (first | refine zka ?_ | refine zkb ?_ | (apply RKp.op; ((try simp (disch := (first | omega | exact zX | exact zO | fail)) only [ixY1, ldY1, g5, Int.toNat_natCast, go_sem, Nat.reduceDiv, Nat.reduceMod, Nat.reduceAdd, Nat.reduceSub, Nat.reduceEqDiff, Nat.reduceLeDiff, Nat.reduceLT, Nat.reduceMul, reduceIte, Nat.reducePow, Int.reduceEq]); exact zL); rfl) | refine zkc ?_ | apply RKg.tt | apply RKg.ff | refine zkd ?_ | refine zke ?_ | refine zkf ?_ | (refine RKg.split (fun h => ?_) (fun h => ?_) <;> (try rw [h]) <;> (replace h := zB h) <;> (try (exfalso; first | exact h | omega))) | apply RK.nil | apply V.sq | apply V.bl | apply V.sc | apply V.skip | apply V.label | apply V.ret | apply V.exit | apply SeqQ.normal | apply SeqQ.ret | apply SeqQ.exit | apply BlockQ.normal | apply BlockQ.ret | apply BlockQ.here | refine zbt ?_ | apply LoopS.ret | apply LoopS.exit | apply LoopF.ret | apply LoopF.exit | apply V.regK | refine zva ?_ | refine zvb ?_ | refine zgc ?_ | refine zvd ?_ | refine zve ?_ | (refine zvf (fun h => ?_) (fun h => ?_) <;> (replace h := zB h) <;> (try (exfalso; first | exact h | omega))) | (refine zfc Tryz.results4 ?_; (try dsimp only)))
            all_goals first
              | (exfalso; omega)
              | (exfalso; simp at h; done)
              | skip
            refine LoopS.again n (by rfl) (by omega) ⟨n, _, rfl, rfl, by omega, hx6 _, by (first | omega | (simp only [next_push, next_set, next_empty]; done) | (simp only [next_push, next_set, next_empty]; omega)), ?_⟩
            unfold backS
            rw [if_neg (by omega)]
            simp (disch := (first | omega | exact zX | fail)) only [get_set, get_push, next_push, next_set, if_pos', if_neg', if_true, if_false, reduceIte]
      · have hne : (((r1.1 : Int) == ((endS L).1 : Nat) && ((r1.2 : Int) == ((endS L).2 : Nat) && ((0 : Int) == 0 && true))) != false) = false := by
          rw [Bool.eq_false_iff]
          intro z
          simp at z
          exact hend (Prod.ext (by omega) (by omega))
        obtain ⟨he, hlt⟩ : Edge false L r1 ∧ ltP s r1 := by
          rcases n1 with ⟨h1, h2, _⟩ | ⟨_, h2⟩
          · exact ⟨h1, h2⟩
          · exact absurd h2 hend
        have hl40 := hl2 s.1 hs1
        have hl41 := hl2 r1.1 he.1
        have hW2 := hW.step n1 he hlt (by omega)
        have hb2 := hW2.hb
        have hr2 := he.2.1
        have hr1 := he.1
        rw [List.length_append, List.length_singleton] at hb2
        generalize hG1 : H2.push (spB (r1.1 : Nat) (r1.2 : Nat) 0) = G1 at *
        have hxG : Ext H2 G1 := by rw [← hG1]; exact (Ext.refl _).push _
        have hnG : G1.next = H2.next + 1 := by rw [← hG1]; rfl
        have ho1 : OwS G1 (H0.next + 1) 24 3 y (spE l) := by rw [← hG1]; exact ho.push _
        obtain ⟨y', H4, tr4, hap, ho', hnx, hfr, hnm4⟩ := ho1.push1 (ELo oc) 0 app_spot (Nat.zero_le _) (by omega) (by rw [spE_len]; unfold roomMax; omega) [.v (.int .i64 (r1.1 : Int)), .v (.int .i64 (r1.2 : Int)), .v (.int .i64 0)]
        rw [← spE_add l r1] at ho'
        have q1 : G1.get H2.next = some (spB (r1.1 : Nat) (r1.2 : Nat) 0) := by rw [← hG1]; simp (disch := (first | omega | exact zX | fail)) only [get_set, get_push, next_push, next_set, if_pos', if_neg', if_true, if_false, reduceIte]
        have q2 : H4.get H2.next = some (spB (r1.1 : Nat) (r1.2 : Nat) 0) := by rw [hfr _ (by omega) (fun z => by have := (ho.nm z).2; omega)]; exact q1
        have q3 : H4.get m = some (spB s.1 s.2 0) := by rw [hfr _ (by omega) hnm, hxG.get _ hm2]; exact g1
        have q4 : H4.get H0.next = some (spB (endS L).1 (endS L).2 0) := by rw [hfr _ (by omega) (fun z => by have := (ho.nm z).1; omega), hxG.get _ (by omega)]; exact g0
        have q5 : G1.get m = some (spB s.1 s.2 0) := by rw [hxG.get _ hm2]; exact g1
        have q6 : G1.get H0.next = some (spB (endS L).1 (endS L).2 0) := by rw [hxG.get _ (by omega)]; exact g0
        have hny : ¬ nmO y' m := fun z => by
          rcases hnm4 m z with z | z
          · exact hnm z
          · omega
        unfold ltP at hlt
        repeat' (first | refine zka ?_ | refine zkb ?_ | (apply RKp.op; ((try simp (disch := (first | omega | exact zX | exact zO | fail)) only [hG1, hne, q1, q2, q3, q4, q5, q6, hap, go_sem, Nat.reduceDiv, Nat.reduceMod, Nat.reduceAdd, Nat.reduceSub, Nat.reduceEqDiff, Nat.reduceLeDiff, Nat.reduceLT, Nat.reduceMul, reduceIte, Nat.reducePow, Int.reduceEq]); exact zL); rfl) | refine zkc ?_ | apply RKg.tt | apply RKg.ff | refine zkd ?_ | refine zke ?_ | refine zkf ?_ | (refine RKg.split (fun h => ?_) (fun h => ?_) <;> (try rw [h]) <;> (replace h := zB h) <;> (try (exfalso; first | exact h | omega))) | apply RK.nil | apply V.sq | apply V.bl | apply V.sc | apply V.skip | apply V.label | apply V.ret | apply V.exit | apply SeqQ.normal | apply SeqQ.ret | apply SeqQ.exit | apply BlockQ.normal | apply BlockQ.ret | apply BlockQ.here | refine zbt ?_ | apply LoopS.ret | apply LoopS.exit | apply LoopF.ret | apply LoopF.exit | apply V.regK | refine zva ?_ | refine zvb ?_ | refine zgc ?_ | refine zvd ?_ | refine zve ?_ | (refine zvf (fun h => ?_) (fun h => ?_) <;> (replace h := zB h) <;> (try (exfalso; first | exact h | omega))) | (refine zfc Tryz.results4 ?_; (try dsimp only)))
        all_goals first
          | (exfalso; exact absurd (hne.symm.trans ‹_›) (by decide))
          | (exfalso; omega)
          | skip
        all_goals
          refine LoopS.again (500 - (l ++ [r1]).length) (by rfl) (by rw [List.length_append, List.length_singleton]; omega) ?_
          refine ⟨_, y', _, l ++ [r1], r1, rfl, rfl, by rw [List.length_append, List.length_singleton]; omega, ho'.onN (by (first | omega | (simp only [next_push, next_set, next_empty]; done) | (simp only [next_push, next_set, next_empty]; omega))) (fun k hk => ?_), fun z => ?_, ?_, ?_, ?_, ?_, hW2, hr1, Nat.le_of_lt hr2⟩
          · have h9 := (ho'.nm hk).2
            have h8 : k ≠ m := fun e => hny (e ▸ hk)
            simp (disch := (first | omega | exact zX | fail)) only [get_set, get_push, next_push, next_set, if_pos', if_neg', if_true, if_false, reduceIte]
          · have := (ho'.nm z).2
            revert this
            (first | omega | (simp only [next_push, next_set, next_empty]; done) | (simp only [next_push, next_set, next_empty]; omega))
          · (first | omega | (simp only [next_push, next_set, next_empty]; done) | (simp only [next_push, next_set, next_empty]; omega))
          · (first | omega | (simp only [next_push, next_set, next_empty]; done) | (simp only [next_push, next_set, next_empty]; omega))
          · simp (disch := (first | omega | exact zX | fail)) only [get_set, get_push, next_push, next_set, if_pos', if_neg', if_true, if_false, reduceIte]
          · rw [get_push, if_neg (by rw [next_set]; omega), get_set, if_neg (by omega)]; exact q4
end
end Go.Am
