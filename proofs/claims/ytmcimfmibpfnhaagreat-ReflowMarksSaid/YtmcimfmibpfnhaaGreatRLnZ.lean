
/- ReflowMarks: a mark at a cell of a line stands at the same cell. -/
import Derived.Test.YtmcimfmibpfnhaaGreatRLnX
set_option linter.all false
set_option linter.deprecated false
namespace Go.Am
variable {oc : Orc} [OrcI oc]
open Go.Proofs
set_option maxRecDepth 100000
set_option maxHeartbeats 8000000
section
variable {M : AV} {E : List (List AV)}
theorem faP (lo : Nat) (hM : Sl 2 M E) (G : AHeap) (j f : Nat) (h : f < 2) : primL lo G (fieldAddrA (ELo oc) 25 f (ixA M E j)) = some (fxA M E j f, G, ⟨0, 0, 0⟩) := by
  rw [fieldAddr_SlH (ELo oc) lo (.inl hM) 25 f j (by
    have e : ∀ f, f < 2 → fieldOff (ELo oc).P 25 f = some f := by
      intro f h
      have : f = 0 ∨ f = 1 := by omega
      rcases this with rfl | rfl
      · rfl
      · rfl
    exact e f h), rdTr_Sl hM]
theorem lrP {l : List (Nat × Nat)} (lo : Nat) (hM : Sl 2 M (posN l)) (G : AHeap) (j : Nat) (hj : j < l.length) : primL lo G (loadA (ELo oc) 3 (fxA M (posN l) j 0)) = some (.v (.int .i64 ((l.getD j (0, 0)).1 : Nat)), G, ⟨0, 0, 0⟩) := by
  rw [loadF_SlH (ELo oc) lo (.inl hM) 3 j 0 (by rw [posN_len]; exact hj) (by decide), nth_posN _ _ hj, rdTr_Sl hM]; rfl
theorem lcP {l : List (Nat × Nat)} (lo : Nat) (hM : Sl 2 M (posN l)) (G : AHeap) (j : Nat) (hj : j < l.length) : primL lo G (loadA (ELo oc) 3 (fxA M (posN l) j 1)) = some (.v (.int .i64 ((l.getD j (0, 0)).2 : Nat)), G, ⟨0, 0, 0⟩) := by
  rw [loadF_SlH (ELo oc) lo (.inl hM) 3 j 1 (by rw [posN_len]; exact hj) (by decide), nth_posN _ _ hj, rdTr_Sl hM]; rfl
end
section
variable {A : AV} {es : List (List AV)} {a : List Rw}
theorem ReflowMarks_law (hbe : ∀ ys lo H, CallR (ELo oc) ys lo 22 [] H (.v (.bool true)) H ⟨0, 0, 0⟩) (hA : Sl 2 A es) (hl : es.length < 2 ^ 63) (hE : RsB es a) (z : Int) (hz : -9223372036854775808 ≤ z ∧ z ≤ 9223372036854775807) (pr pc : Int) : WC (ELo oc) [] 0 9 [A, .v (.int .i64 z), .agg [.v (.int .i64 pr), .v (.int .i64 pc)]] .empty fun x _ => x = .v (.bool true) := by
  generalize hEm : AHeap.empty = H0
  have hRa := fun ys G => Rows_run (ys := ys) (lo := 0) (H := G) (.inl hA) hE hl
  obtain ⟨m1, m2, m3⟩ := mod_25 z
  have hw0 : 2 + (z.tmod 25 + 25).tmod 25 = 2 + z % 25 := by rw [m1]
  generalize hwd : 2 + z % 25 = w at *
  have hw1 : 2 ≤ w := by omega
  have hw2 : w ≤ 26 := by omega
  refine zvin Tryz.func9 Tryz.ntmps9 ?_
  repeat' (first | refine zka ?_ | refine zkb ?_ | (apply RKp.op; ((try simp (disch := (first | omega | exact zX | exact zO | fail)) only [hw0, go_sem, Nat.reduceDiv, Nat.reduceMod, Nat.reduceAdd, Nat.reduceSub, Nat.reduceEqDiff, Nat.reduceLeDiff, Nat.reduceLT, Nat.reduceMul, reduceIte, Nat.reducePow, Int.reduceEq]); exact zL); rfl) | (apply RKp.call; (apply hbe <;> (exact zD)); rfl) | (apply RKp.callR; (apply hbe <;> (exact zD)); rfl; intro tr htr) | (apply RKp.callO; (apply hbe <;> (exact zD)); rfl; intro tr) | (apply RKp.callRE; (apply hbe <;> (exact zD)); (intro x; rfl)) | (apply RKp.callE; (apply hbe <;> (exact zD)); (intro x; rfl)) | (apply RKp.callNE; (apply hRa <;> (exact zD)); (intro x; rfl)) | refine zkc ?_ | apply RKg.tt | apply RKg.ff | refine zkd ?_ | refine zke ?_ | refine zkf ?_ | (refine RKg.split (fun h => ?_) (fun h => ?_) <;> (try rw [h]) <;> (replace h := zB h) <;> (try (exfalso; first | exact h | omega))) | apply RK.nil | apply V.sq | apply V.bl | apply V.sc | apply V.skip | apply V.label | apply V.ret | apply V.exit | apply SeqQ.normal | apply SeqQ.ret | apply SeqQ.exit | apply BlockQ.normal | apply BlockQ.ret | apply BlockQ.here | refine zbt ?_ | apply LoopS.ret | apply LoopS.exit | apply LoopF.ret | apply LoopF.exit | apply V.regK | refine zva ?_ | refine zvb ?_ | refine zgc ?_ | refine zvd ?_ | refine zve ?_ | (refine zvf (fun h => ?_) (fun h => ?_) <;> (replace h := zB h) <;> (try (exfalso; first | exact h | omega))) | (refine zfc Tryz.results9 ?_; (try dsimp only)))
  rintro x H1 tr htr ⟨es1, ho1, hr1, hx1, -⟩
  have hn1 := hx1.next
  rw [next_push] at hn1
  have hla := rowsT_len a
  generalize rowsT a = ra at *
  have hX : SlH H1 2 x es1 := ho1.slh
  have p0 : H1.get H0.next = some (poBlk pr pc) := by rw [hx1.get _ (by (first | omega | (simp only [next_push, next_set, next_empty]; done) | (simp only [next_push, next_set, next_empty]; omega)))]; simp (disch := (first | omega | exact zX | fail)) only [get_set, get_push, next_push, next_set, if_pos', if_neg', if_true, if_false, reduceIte]
  obtain ⟨hj1, hj2⟩ := joinL_sz hr1 hla
  by_cases hp1 : 0 ≤ pr ∧ pr < ra.length
  · obtain ⟨o1, o2⟩ := hp1
    obtain ⟨i, rfl⟩ : ∃ i : Nat, pr = i := ⟨pr.toNat, by omega⟩
    have hi : i < ra.length := by omega
    have hRow := fun ys G => Row_R (ys := ys) (lo := 0) (H := G) (wr := (ra.getD i noRw).2) (.inl (hr1.sl i hi)) (by have := hr1.lt i hi; omega) (hr1.r32 i hi)
    have hC : ∀ G, SlH G 3 (bOf es1 i) (cesA (ra.getD i noRw).1) := fun G => .inl (hr1.sl i hi)
    have lnc := fun G => len_cell 0 (hC G)
    by_cases hG : rowG (ra.getD i noRw).1
    · simp only [decide_eq_true hG] at hRow
      by_cases hc : 0 ≤ pc ∧ pc < (ra.getD i noRw).1.length
      · have hSr := fun ys G (q : Ext H1 G) => refSpot_run (ys := ys) (lo := 0) (hX.ext q) hr1 (by omega) i pc
        have hK := fun ys G (q : Ext H1 G) => refJoin_run (ys := ys) (lo := 0) (hX.ext q) hr1 (by omega)
        have hO := fun ys G (q : Ext H1 G) => reRows_run (ys := ys) (lo := 0) (M := .sl 2 (posE [((i : Int), pc)])) (ms := [((i : Int), pc)]) (hX.ext q) hr1 (by omega) (.inl (.inl rfl)) (by simp) w (by omega) (by omega) (fun l hl => by have := (hj2 l hl).1; omega)
        rw [if_pos ⟨hw1, by omega⟩] at hO
        have eE : posE [((i : Int), pc)] = [[.v (.int .i64 (i : Int)), .v (.int .i64 pc)]] := rfl
        simp only [eE, List.map_cons, List.map_nil] at hO
        obtain ⟨li, lk, lp, hsp, hli, hlk, hlp⟩ := mark_at w hw1 (by omega) ra i pc o1 o2
        have hmk : markL ra w ((i : Int), pc) = placeL (joinL ra) w li lk lp := by unfold markL; rw [hsp]
        rw [hmk] at hO
        simp only [hsp] at hSr
        have h32 : ∀ l ∈ joinL ra, R32 l := fun l hl => (hj2 l hl).2
        have hr2 := RsP.allL w h32
        have hgl := fun l hl => (joinL_line ra l hl).1
        have hRS : ∀ G, SlH G 2 (rwA (allL (joinL ra) w)) (rowsA (allL (joinL ra) w)) := fun G => .inl (rwA_Sl _)
        have hP := posL_Sl [placeL (joinL ra) w li lk lp]
        have ez : Int.toNat 0 = 0 := rfl
        have lnP := fun G => lenP 0 hP G
        have ixP' := fun G => ixP 0 hP G
        have faP' := fun G => faP 0 hP G
        have lrP' := fun G => lrP 0 hP G 0 (by simp)
        have lcP' := fun G => lcP 0 hP G 0 (by simp)
        rw [posN_len] at lnP ixP'
        have eg : ([placeL (joinL ra) w li lk lp].getD 0 (0, 0)) = placeL (joinL ra) w li lk lp := rfl
        simp only [List.length_singleton, eg] at lnP ixP' lrP' lcP'
        by_cases hlt : lk < ((joinL ra).getD li []).length
        · have hlp0 := hlp hlt
          subst hlp0
          obtain ⟨-, -, row, q1, q2, q3, q4⟩ := place_at w hw1 (by omega) (joinL ra) hgl li lk hli hlt
          generalize placeL (joinL ra) w li lk (0 : Nat) = q at *
          obtain ⟨qr, qc⟩ := q
          dsimp only at *
          have hqr : qr < (allL (joinL ra) w).length := by
            rcases Nat.lt_or_ge qr (allL (joinL ra) w).length with hh | hh
            · exact hh
            · rw [List.getElem?_eq_none hh] at q1; cases q1
          generalize hRA : rwA (allL (joinL ra) w) = RA at *
          generalize hRE : rowsA (allL (joinL ra) w) = RE at *
          generalize hRW : allL (joinL ra) w = RS at *
          have hrow : RS.getD qr noRw = row := by rw [List.getD_eq_getElem?_getD, q1]; rfl
          have hCq : ∀ G, SlH G 3 (bOf RE qr) (cesA row.1) := fun G => by have := hr2.sl qr (by omega); rw [hrow] at this; exact .inl this
          have lnq := fun G => len_cell 0 (hCq G)
          have ixq := fun G => ix_cell 0 (hCq G)
          have ldq := fun G => ld_cell 0 (hCq G)
          repeat' (first | refine zka ?_ | refine zkb ?_ | (apply RKp.op; ((try simp (disch := (first | omega | exact zX | exact zO | fail)) only [p0, lenR 0 hX hr1, ixR 0 hX hr1, ldR 0 hX hr1, faR 0 hX, lcR 0 hX hr1, lnc, hw0, Int.toNat_natCast, go_sem, Nat.reduceDiv, Nat.reduceMod, Nat.reduceAdd, Nat.reduceSub, Nat.reduceEqDiff, Nat.reduceLeDiff, Nat.reduceLT, Nat.reduceMul, reduceIte, Nat.reducePow, Int.reduceEq]); exact zL); rfl) | (apply RKp.callR; ((first | apply hRow | apply hSr | apply hO) <;> (exact zD)); rfl; intro tr htr) | (apply RKp.callRE; (apply hK <;> (exact zD)); (intro x; rfl)) | refine zkc ?_ | apply RKg.tt | apply RKg.ff | refine zkd ?_ | refine zke ?_ | refine zkf ?_ | (refine RKg.split (fun h => ?_) (fun h => ?_) <;> (try rw [h]) <;> (replace h := zB h) <;> (try (exfalso; first | exact h | omega))) | apply RK.nil | apply V.sq | apply V.bl | apply V.sc | apply V.skip | apply V.label | apply V.ret | apply V.exit | apply SeqQ.normal | apply SeqQ.ret | apply SeqQ.exit | apply BlockQ.normal | apply BlockQ.ret | apply BlockQ.here | refine zbt ?_ | apply LoopS.ret | apply LoopS.exit | apply LoopF.ret | apply LoopF.exit | apply V.regK | refine zva ?_ | refine zvb ?_ | refine zgc ?_ | refine zvd ?_ | refine zve ?_ | (refine zvf (fun h => ?_) (fun h => ?_) <;> (replace h := zB h) <;> (try (exfalso; first | exact h | omega))) | (refine zfc Tryz.results9 ?_; (try dsimp only)))
          all_goals first
            | (exfalso; omega)
            | skip
          rintro u tru htru ⟨els, hu, hls⟩
          have hux : SlH H1 1 u els := .inl hu
          have hCl : ∀ G, SlH G 3 (bOf els li) (cesA ((joinL ra).getD li [])) := fun G => .inl (hls.sl li hli)
          have lnl := fun G => len_cell 0 (hCl G)
          have ixl := fun G => ix_cell 0 (hCl G)
          have ldl := fun G => ld_cell 0 (hCl G)
          repeat' (first | refine zka ?_ | refine zkb ?_ | (apply RKp.op; ((try simp (disch := (first | omega | exact zX | exact zO | fail)) only [p0, lenL 0 hux hls, ixL 0 hux hls, ldL 0 hux hls, lnl, ixl, ldl, lnP, ixP', faP', lrP', lcP', lenR 0 (hRS H1) hr2, ixR 0 (hRS H1) hr2, faR 0 (hRS H1), lcR 0 (hRS H1) hr2, lnq, ixq, ldq, q2, q4, ez, hw0, Int.toNat_natCast, go_sem, Nat.reduceDiv, Nat.reduceMod, Nat.reduceAdd, Nat.reduceSub, Nat.reduceEqDiff, Nat.reduceLeDiff, Nat.reduceLT, Nat.reduceMul, reduceIte, Nat.reducePow, Int.reduceEq]); exact zL); rfl) | (apply RKp.callR; (apply hO <;> (exact zD)); rfl; intro tr htr) | refine zkc ?_ | apply RKg.tt | apply RKg.ff | refine zkd ?_ | refine zke ?_ | refine zkf ?_ | (refine RKg.split (fun h => ?_) (fun h => ?_) <;> (try rw [h]) <;> (replace h := zB h) <;> (try (exfalso; first | exact h | omega))) | apply RK.nil | apply V.sq | apply V.bl | apply V.sc | apply V.skip | apply V.label | apply V.ret | apply V.exit | apply SeqQ.normal | apply SeqQ.ret | apply SeqQ.exit | apply BlockQ.normal | apply BlockQ.ret | apply BlockQ.here | refine zbt ?_ | apply LoopS.ret | apply LoopS.exit | apply LoopF.ret | apply LoopF.exit | apply V.regK | refine zva ?_ | refine zvb ?_ | refine zgc ?_ | refine zvd ?_ | refine zve ?_ | (refine zvf (fun h => ?_) (fun h => ?_) <;> (replace h := zB h) <;> (try (exfalso; first | exact h | omega))) | (refine zfc Tryz.results9 ?_; (try dsimp only)))
          all_goals first
            | (exfalso; omega)
            | (simp; done)
            | rfl
            | trace_state
        · have hlk2 : lk = ((joinL ra).getD li []).length := by omega
          obtain ⟨e1, -, e3, -⟩ := place_end w hw1 (by omega) (joinL ra) hgl li hli lp (by omega)
          rw [← hlk2] at e1 e3
          have hle := allL_le (joinL ra) w (li + 1)
          generalize placeL (joinL ra) w li lk lp = q at *
          obtain ⟨qr, qc⟩ := q
          dsimp only at *
          generalize hRA : rwA (allL (joinL ra) w) = RA at *
          generalize hRE : rowsA (allL (joinL ra) w) = RE at *
          generalize hRW : allL (joinL ra) w = RS at *
          repeat' (first | refine zka ?_ | refine zkb ?_ | (apply RKp.op; ((try simp (disch := (first | omega | exact zX | exact zO | fail)) only [p0, lenR 0 hX hr1, ixR 0 hX hr1, ldR 0 hX hr1, faR 0 hX, lcR 0 hX hr1, lnc, hw0, Int.toNat_natCast, go_sem, Nat.reduceDiv, Nat.reduceMod, Nat.reduceAdd, Nat.reduceSub, Nat.reduceEqDiff, Nat.reduceLeDiff, Nat.reduceLT, Nat.reduceMul, reduceIte, Nat.reducePow, Int.reduceEq]); exact zL); rfl) | (apply RKp.callR; ((first | apply hRow | apply hSr | apply hO) <;> (exact zD)); rfl; intro tr htr) | (apply RKp.callRE; (apply hK <;> (exact zD)); (intro x; rfl)) | refine zkc ?_ | apply RKg.tt | apply RKg.ff | refine zkd ?_ | refine zke ?_ | refine zkf ?_ | (refine RKg.split (fun h => ?_) (fun h => ?_) <;> (try rw [h]) <;> (replace h := zB h) <;> (try (exfalso; first | exact h | omega))) | apply RK.nil | apply V.sq | apply V.bl | apply V.sc | apply V.skip | apply V.label | apply V.ret | apply V.exit | apply SeqQ.normal | apply SeqQ.ret | apply SeqQ.exit | apply BlockQ.normal | apply BlockQ.ret | apply BlockQ.here | refine zbt ?_ | apply LoopS.ret | apply LoopS.exit | apply LoopF.ret | apply LoopF.exit | apply V.regK | refine zva ?_ | refine zvb ?_ | refine zgc ?_ | refine zvd ?_ | refine zve ?_ | (refine zvf (fun h => ?_) (fun h => ?_) <;> (replace h := zB h) <;> (try (exfalso; first | exact h | omega))) | (refine zfc Tryz.results9 ?_; (try dsimp only)))
          all_goals first
            | (exfalso; omega)
            | skip
          rintro u tru htru ⟨els, hu, hls⟩
          have hux : SlH H1 1 u els := .inl hu
          have hCl : ∀ G, SlH G 3 (bOf els li) (cesA ((joinL ra).getD li [])) := fun G => .inl (hls.sl li hli)
          have lnl := fun G => len_cell 0 (hCl G)
          repeat' (first | refine zka ?_ | refine zkb ?_ | (apply RKp.op; ((try simp (disch := (first | omega | exact zX | exact zO | fail)) only [p0, lenL 0 hux hls, ixL 0 hux hls, ldL 0 hux hls, lnl, lnP, ixP', faP', lrP', lcP', lenR 0 (hRS H1) hr2, ez, hw0, Int.toNat_natCast, go_sem, Nat.reduceDiv, Nat.reduceMod, Nat.reduceAdd, Nat.reduceSub, Nat.reduceEqDiff, Nat.reduceLeDiff, Nat.reduceLT, Nat.reduceMul, reduceIte, Nat.reducePow, Int.reduceEq]); exact zL); rfl) | (apply RKp.callR; (apply hO <;> (exact zD)); rfl; intro tr htr) | refine zkc ?_ | apply RKg.tt | apply RKg.ff | refine zkd ?_ | refine zke ?_ | refine zkf ?_ | (refine RKg.split (fun h => ?_) (fun h => ?_) <;> (try rw [h]) <;> (replace h := zB h) <;> (try (exfalso; first | exact h | omega))) | apply RK.nil | apply V.sq | apply V.bl | apply V.sc | apply V.skip | apply V.label | apply V.ret | apply V.exit | apply SeqQ.normal | apply SeqQ.ret | apply SeqQ.exit | apply BlockQ.normal | apply BlockQ.ret | apply BlockQ.here | refine zbt ?_ | apply LoopS.ret | apply LoopS.exit | apply LoopF.ret | apply LoopF.exit | apply V.regK | refine zva ?_ | refine zvb ?_ | refine zgc ?_ | refine zvd ?_ | refine zve ?_ | (refine zvf (fun h => ?_) (fun h => ?_) <;> (replace h := zB h) <;> (try (exfalso; first | exact h | omega))) | (refine zfc Tryz.results9 ?_; (try dsimp only)))
          all_goals first
            | (exfalso; omega)
            | (rw [decide_eq_true (show (qc : Int) ≤ w by omega)]; done)
            | trace_state
      · repeat' (first | refine zka ?_ | refine zkb ?_ | (apply RKp.op; ((try simp (disch := (first | omega | exact zX | exact zO | fail)) only [p0, lenR 0 hX hr1, ixR 0 hX hr1, ldR 0 hX hr1, faR 0 hX, lcR 0 hX hr1, lnc, hw0, Int.toNat_natCast, go_sem, Nat.reduceDiv, Nat.reduceMod, Nat.reduceAdd, Nat.reduceSub, Nat.reduceEqDiff, Nat.reduceLeDiff, Nat.reduceLT, Nat.reduceMul, reduceIte, Nat.reducePow, Int.reduceEq]); exact zL); rfl) | (apply RKp.callR; (apply hRow <;> (exact zD)); rfl; intro tr htr) | refine zkc ?_ | apply RKg.tt | apply RKg.ff | refine zkd ?_ | refine zke ?_ | refine zkf ?_ | (refine RKg.split (fun h => ?_) (fun h => ?_) <;> (try rw [h]) <;> (replace h := zB h) <;> (try (exfalso; first | exact h | omega))) | apply RK.nil | apply V.sq | apply V.bl | apply V.sc | apply V.skip | apply V.label | apply V.ret | apply V.exit | apply SeqQ.normal | apply SeqQ.ret | apply SeqQ.exit | apply BlockQ.normal | apply BlockQ.ret | apply BlockQ.here | refine zbt ?_ | apply LoopS.ret | apply LoopS.exit | apply LoopF.ret | apply LoopF.exit | apply V.regK | refine zva ?_ | refine zvb ?_ | refine zgc ?_ | refine zvd ?_ | refine zve ?_ | (refine zvf (fun h => ?_) (fun h => ?_) <;> (replace h := zB h) <;> (try (exfalso; first | exact h | omega))) | (refine zfc Tryz.results9 ?_; (try dsimp only)))
        all_goals first
          | (exfalso; omega)
          | rfl
          | trace_state
    · simp only [decide_eq_false hG] at hRow
      repeat' (first | refine zka ?_ | refine zkb ?_ | (apply RKp.op; ((try simp (disch := (first | omega | exact zX | exact zO | fail)) only [p0, lenR 0 hX hr1, ixR 0 hX hr1, ldR 0 hX hr1, faR 0 hX, lcR 0 hX hr1, lnc, hw0, Int.toNat_natCast, go_sem, Nat.reduceDiv, Nat.reduceMod, Nat.reduceAdd, Nat.reduceSub, Nat.reduceEqDiff, Nat.reduceLeDiff, Nat.reduceLT, Nat.reduceMul, reduceIte, Nat.reducePow, Int.reduceEq]); exact zL); rfl) | (apply RKp.callR; (apply hRow <;> (exact zD)); rfl; intro tr htr) | refine zkc ?_ | apply RKg.tt | apply RKg.ff | refine zkd ?_ | refine zke ?_ | refine zkf ?_ | (refine RKg.split (fun h => ?_) (fun h => ?_) <;> (try rw [h]) <;> (replace h := zB h) <;> (try (exfalso; first | exact h | omega))) | apply RK.nil | apply V.sq | apply V.bl | apply V.sc | apply V.skip | apply V.label | apply V.ret | apply V.exit | apply SeqQ.normal | apply SeqQ.ret | apply SeqQ.exit | apply BlockQ.normal | apply BlockQ.ret | apply BlockQ.here | refine zbt ?_ | apply LoopS.ret | apply LoopS.exit | apply LoopF.ret | apply LoopF.exit | apply V.regK | refine zva ?_ | refine zvb ?_ | refine zgc ?_ | refine zvd ?_ | refine zve ?_ | (refine zvf (fun h => ?_) (fun h => ?_) <;> (replace h := zB h) <;> (try (exfalso; first | exact h | omega))) | (refine zfc Tryz.results9 ?_; (try dsimp only)))
      all_goals first
        | (exfalso; omega)
        | rfl
        | trace_state
  · repeat' (first | refine zka ?_ | refine zkb ?_ | (apply RKp.op; ((try simp (disch := (first | omega | exact zX | exact zO | fail)) only [p0, lenR 0 hX hr1, hw0, go_sem, Nat.reduceDiv, Nat.reduceMod, Nat.reduceAdd, Nat.reduceSub, Nat.reduceEqDiff, Nat.reduceLeDiff, Nat.reduceLT, Nat.reduceMul, reduceIte, Nat.reducePow, Int.reduceEq]); exact zL); rfl) | refine zkc ?_ | apply RKg.tt | apply RKg.ff | refine zkd ?_ | refine zke ?_ | refine zkf ?_ | (refine RKg.split (fun h => ?_) (fun h => ?_) <;> (try rw [h]) <;> (replace h := zB h) <;> (try (exfalso; first | exact h | omega))) | apply RK.nil | apply V.sq | apply V.bl | apply V.sc | apply V.skip | apply V.label | apply V.ret | apply V.exit | apply SeqQ.normal | apply SeqQ.ret | apply SeqQ.exit | apply BlockQ.normal | apply BlockQ.ret | apply BlockQ.here | refine zbt ?_ | apply LoopS.ret | apply LoopS.exit | apply LoopF.ret | apply LoopF.exit | apply V.regK | refine zva ?_ | refine zvb ?_ | refine zgc ?_ | refine zvd ?_ | refine zve ?_ | (refine zvf (fun h => ?_) (fun h => ?_) <;> (replace h := zB h) <;> (try (exfalso; first | exact h | omega))) | (refine zfc Tryz.results9 ?_; (try dsimp only)))
    all_goals first
      | (exfalso; omega)
      | rfl
      | trace_state
end
theorem ReflowMarks_run (v : List AV) (hv : Wd Tryz.prog 6 22 v) (w : Int) (hw : (Lit.int .i64 w).wf = true) (p : List AV) (hp : Wd Tryz.prog 6 25 p) : WC EF [] 0 9 [v.getD 0 .dead, .v (.int .i64 w), .agg p] .empty fun x _ => x = .v (.bool true) := by
  obtain ⟨A, es, a, rfl, hA, hlen, hE⟩ := wd_rowsS (d := 1) hv
  obtain ⟨pr, pc, rfl⟩ := wd_pos (d := 4) hp
  exact ReflowMarks_law (fun ys lo H => begun_F) hA hlen hE w (i64_wf hw) pr pc
end Go.Am
