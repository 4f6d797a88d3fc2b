
/- ReflowOne: each mark by itself. -/
import Derived.Test.YtmcimfmibpfnhaaGreatRLnU
set_option linter.all false
set_option linter.deprecated false
namespace Go.Am
variable {oc : Orc} [OrcI oc]
open Go.Proofs
set_option maxRecDepth 100000
set_option maxHeartbeats 8000000
section
variable {E : List (List AV)} {M : AV}
theorem lenP (lo : Nat) (hM : Sl 2 M E) (G : AHeap) : primL lo G (builtinA (ELo oc) .len #[54] 3 [M]) = some (.v (.int .i64 E.length), G, ⟨0, 0, 0⟩) := by
  rw [len_SlH (ELo oc) lo 54 3 (.inl hM) (by kernel_rfl), rdTr_Sl hM]
theorem ixP (lo : Nat) (hM : Sl 2 M E) (G : AHeap) (z : Int) (z0 : 0 ≤ z) (z1 : z < E.length) : primL lo G (indexAddrA (ELo oc) 54 M (.v (.int .i64 z))) = some (ixA M E z.toNat, G, ⟨0, 0, 0⟩) := by
  rw [ix_SlH (ELo oc) lo 54 .i64 z (.inl hM) (by kernel_rfl) z0 z1, rdTr_Sl hM]
theorem ldP {l : List (Nat × Nat)} (lo : Nat) (hM : Sl 2 M (posN l)) (G : AHeap) (j : Nat) (hj : j < l.length) : primL lo G (loadA (ELo oc) 25 (ixA M (posN l) j)) = some (.agg [.v (.int .i64 ((l.getD j (0, 0)).1 : Nat)), .v (.int .i64 ((l.getD j (0, 0)).2 : Nat))], G, ⟨0, 0, 0⟩) := by
  rw [load_SlH (ELo oc) lo 25 j (.inl hM) (by rw [posN_len]; exact hj), nth_posN _ _ hj, rdTr_Sl hM]; rfl
theorem ldPE {l : List (Int × Int)} (lo : Nat) (hM : Sl 2 M (posE l)) (G : AHeap) (j : Nat) (hj : j < l.length) : primL lo G (loadA (ELo oc) 25 (ixA M (posE l) j)) = some (.agg [.v (.int .i64 (l.getD j (0, 0)).1), .v (.int .i64 (l.getD j (0, 0)).2)], G, ⟨0, 0, 0⟩) := by
  rw [load_SlH (ELo oc) lo 25 j (.inl hM) (by rw [posE_len]; exact hj), nth_posE _ _ hj, rdTr_Sl hM]; rfl
theorem cut_Sl2 {sz : Nat} {A : AV} {l : List (List AV)} (hA : Sl sz A l) (n : Nat) : Sl sz (cutA A 0 n) (l.take n) := by
  rcases hA with rfl | ⟨rfl, rfl | rfl⟩
  · left; show AV.sl sz ((l.drop 0).take (n - 0)) = _; rw [List.drop_zero, Nat.sub_zero]
  · right; exact ⟨by simp, .inl rfl⟩
  · right; exact ⟨by simp, .inr rfl⟩
theorem slP_hi (lo : Nat) (hM : Sl 2 M E) (G : AHeap) (κ : IntKind) (z : Int) (h0 : 0 ≤ z) (h1 : z ≤ E.length) : primL lo G (sliceA (ELo oc) 54 M none (some (.v (.int κ z))) none) = some (cutA M 0 z.toNat, G, rdTr M) :=
  slice_SlH (ELo oc) lo (by kernel_rfl) (.inl hM) none _ (bound_none 0) (bound_some κ z _ h0) (Nat.zero_le _) (by omega)
end
section
variable {A M : AV} {es : List (List AV)} {a : List Rw} {ms : List (Int × Int)}
theorem ReflowOne_law (hbe : ∀ ys lo H, CallR (ELo oc) ys lo 22 [] H (.v (.bool true)) H ⟨0, 0, 0⟩) (hA : Sl 2 A es) (hl : es.length < 2 ^ 63) (hE : RsB es a) (z : Int) (hz : -9223372036854775808 ≤ z ∧ z ≤ 9223372036854775807) (hM : Sl 2 M (posE ms)) (hml : ms.length < 2 ^ 63) : WC (ELo oc) [] 0 16 [A, .v (.int .i64 z), M] .empty fun x _ => x = .v (.bool true) := by
  generalize hEm : AHeap.empty = H0
  have hRa := fun ys G => Rows_run (ys := ys) (lo := 0) (H := G) (.inl hA) hE hl
  obtain ⟨m1, m2, m3⟩ := mod_20 z
  have hw0 : 2 + (z.tmod 20 + 20).tmod 20 = 2 + z % 20 := by rw [m1]
  generalize hwd : 2 + z % 20 = w at *
  have hw1 : 2 ≤ w := by omega
  have hw2 : w ≤ 22 := by omega
  have lnM := fun G => lenP 0 hM G
  rw [posE_len] at lnM
  have slM := fun G => slP_hi 0 hM G
  rw [posE_len] at slM
  have hmi : (min (ms.length : Int) 6).toNat = min ms.length 6 := by omega
  have hM2 := cut_Sl2 hM (min ms.length 6)
  have e6 : (posE ms).take (min ms.length 6) = posE (ms.take (min ms.length 6)) := by unfold posE; rw [List.map_take]
  rw [e6] at hM2
  have hm6 : (ms.take (min ms.length 6)).length ≤ 6 := by rw [List.length_take]; omega
  refine zvin Tryz.func16 Tryz.ntmps16 ?_
  repeat' (first
   | refine zka ?_
   | refine zkb ?_
   | (apply RKp.op; ((try simp (disch := (first | omega | exact zX | exact zO | fail)) only [hw0, go_sem, Nat.reduceDiv, Nat.reduceMod, Nat.reduceAdd, Nat.reduceSub, Nat.reduceEqDiff, Nat.reduceLeDiff, Nat.reduceLT, Nat.reduceMul, reduceIte, Nat.reducePow, Int.reduceEq]); exact zL); rfl)
   | (apply RKp.call; (apply hbe <;> (exact zD)); rfl)
   | (apply RKp.callR; (apply hbe <;> (exact zD)); rfl; intro tr htr)
   | (apply RKp.callO; (apply hbe <;> (exact zD)); rfl; intro tr)
   | (apply RKp.callRE; (apply hbe <;> (exact zD)); (intro x; rfl))
   | (apply RKp.callE; (apply hbe <;> (exact zD)); (intro x; rfl))
   | (apply RKp.callNE; (apply hRa <;> (exact zD)); (intro x; rfl))
   | refine zkc ?_
   | apply RKg.tt
   | apply RKg.ff
   | refine zkd ?_
   | refine zke ?_
   | refine zkf ?_
   | (refine RKg.split (fun h => ?_) (fun h => ?_) <;> (try rw [h]) <;> (replace h := zB h) <;> (try (exfalso; first | exact h | omega)))
   | apply RK.nil
   | apply V.sq
   | apply V.bl
   | apply V.sc
   | apply V.skip
   | apply V.label
   | apply V.ret
   | apply V.exit
   | apply SeqQ.normal
   | apply SeqQ.ret
   | apply SeqQ.exit
   | apply BlockQ.normal
   | apply BlockQ.ret
   | apply BlockQ.here
   | refine zbt ?_
   | apply LoopS.ret
   | apply LoopS.exit
   | apply LoopF.ret
   | apply LoopF.exit
   | apply V.regK
    | refine zva ?_
   | refine zvb ?_
   | refine zgc ?_
   | refine zvd ?_
   | refine zve ?_
   | (refine zvf (fun h => ?_) (fun h => ?_) <;> (replace h := zB h) <;> (try (exfalso; first | exact h | omega)))
    | (refine zfc Tryz.results16 ?_; (try dsimp only)))
  rintro x H1 tr htr ⟨es1, ho1, hr1, hx1, -⟩
  have hla := rowsT_len a
  generalize rowsT a = ra at *
  have hX : SlH H1 2 x es1 := ho1.slh
  obtain ⟨hj1, hj2⟩ := joinL_sz hr1 hla
  generalize ms.take (min ms.length 6) = mt at *
  generalize hMT : cutA M 0 (min ms.length 6) = MT at *
  have lnT := fun G => lenP 0 hM2 G
  have ixT := fun G => ixP 0 hM2 G
  have ldT := fun G => ldPE 0 hM2 G
  rw [posE_len] at lnT ixT
  have hRe := fun ys => reRows_run (ys := ys) (lo := 0) hX hr1 (by omega) (.inl hM2) (by omega) w (by omega) (by omega) (fun l hl => by have := (hj2 l hl).1; omega)
  rw [if_pos ⟨hw1, by omega⟩] at hRe
  have hO := fun ys p => reRows_run (ys := ys) (lo := 0) (M := .sl 2 (posE [p])) (ms := [p]) hX hr1 (by omega) (.inl (.inl rfl)) (by simp) w (by omega) (by omega) (fun l hl => by have := (hj2 l hl).1; omega)
  simp only [if_pos (show 2 ≤ w ∧ w ≤ 300 from ⟨hw1, by omega⟩)] at hO
  have hP := posL_Sl (mt.map (markL ra w))
  have lnP := fun G => lenP 0 hP G
  have ixP' := fun G => ixP 0 hP G
  have ldP' := fun G => ldP 0 hP G
  rw [posN_len, List.length_map] at lnP ixP'
  generalize hPL : posL (mt.map (markL ra w)) = P at *
  repeat' (first
   | refine zka ?_
   | refine zkb ?_
   | (apply RKp.op; ((try simp (disch := (first | omega | exact zX | exact zO | fail)) only [hw0, lnM, slM, hmi, hMT, lnT, lnP, go_sem, Nat.reduceDiv, Nat.reduceMod, Nat.reduceAdd, Nat.reduceSub, Nat.reduceEqDiff, Nat.reduceLeDiff, Nat.reduceLT, Nat.reduceMul, reduceIte, Nat.reducePow, Int.reduceEq]); exact zL); rfl)
   | (apply RKp.callR; (apply hRe <;> (exact zD)); rfl; intro tr htr)
   | refine zkc ?_
   | apply RKg.tt
   | apply RKg.ff
   | refine zkd ?_
   | refine zke ?_
   | refine zkf ?_
   | (refine RKg.split (fun h => ?_) (fun h => ?_) <;> (try rw [h]) <;> (replace h := zB h) <;> (try (exfalso; first | exact h | omega)))
   | apply RK.nil
   | apply V.sq
   | apply V.bl
   | apply V.sc
   | apply V.skip
   | apply V.label
   | apply V.ret
   | apply V.exit
   | apply SeqQ.normal
   | apply SeqQ.ret
   | apply SeqQ.exit
   | apply BlockQ.normal
   | apply BlockQ.ret
   | apply BlockQ.here
   | refine zbt ?_
   | apply LoopS.ret
   | apply LoopS.exit
   | apply LoopF.ret
   | apply LoopF.exit
   | apply V.regK
    | refine zva ?_
   | refine zvb ?_
   | refine zgc ?_
   | refine zvd ?_
   | refine zve ?_
   | (refine zvf (fun h => ?_) (fun h => ?_) <;> (replace h := zB h) <;> (try (exfalso; first | exact h | omega)))
    | (refine zfc Tryz.results16 ?_; (try dsimp only)))
  all_goals first
    | (exfalso; omega)
    | skip
  apply V.lpF [10, 6, 11, 12, 40, 41, 42, 43, 44, 45, 46, 47, 48, 49, 50, 51, 52, 53, 54, 55, 56, 57, 58, 59, 60, 61, 62, 63, 64, 65, 66, 67, 68, 69] (fun k xs => ∃ (i : Nat) (g : _), xs = .v (.int .i64 i) :: g ∧ k = mt.length - i ∧ i ≤ mt.length) mt.length
  focus (intro xs; simp only [putMany, set2, Nat.reduceAdd, Nat.reduceDiv, Nat.reduceMod, nth_zero, nth_succ, List.set_cons_zero, List.set_cons_succ]; rfl)
  focus (first | rfl | simp only [readMany, nth_zero, nth_succ, Nat.reduceDiv, Nat.reduceMod])
  · exact ⟨0, _, rfl, rfl, Nat.zero_le _⟩
  · rintro k xs ⟨i, g, rfl, rfl, hi⟩
    by_cases hlt : i < mt.length
    · have hOi := fun ys => hO ys (mt.getD i (0, 0))
      have hQ := posL_Sl ([mt.getD i (0, 0)].map (markL ra w))
      have lnQ := fun G => lenP 0 hQ G
      have ixQ := fun G => ixP 0 hQ G
      have ldQ := fun G => ldP 0 hQ G 0 (by simp)
      rw [posN_len] at lnQ ixQ
      simp only [List.map_cons, List.map_nil, List.length_singleton] at lnQ ixQ
      have eg : (mt.map (markL ra w)).getD i (0, 0) = markL ra w (mt.getD i (0, 0)) := by
        rw [List.getD_eq_getElem?_getD, List.getElem?_map, List.getD_eq_getElem?_getD, List.getElem?_eq_getElem hlt]; rfl
      have eq0 : ([mt.getD i (0, 0)].map (markL ra w)).getD 0 (0, 0) = markL ra w (mt.getD i (0, 0)) := rfl
      have ldPi := fun G => ldP' G i (by rw [List.length_map]; exact hlt)
      simp only [eg] at ldPi
      simp only [eq0] at ldQ
      have ez : Int.toNat 0 = 0 := rfl
      have eE : posE [mt.getD i (0, 0)] = [[.v (.int .i64 (mt.getD i (0, 0)).1), .v (.int .i64 (mt.getD i (0, 0)).2)]] := rfl
      simp only [eE] at hOi
      simp only [List.map_cons, List.map_nil] at hOi hQ ixQ ldQ lnQ
      generalize markL ra w (mt.getD i (0, 0)) = pp at *
      repeat' (first
       | refine zka ?_
       | refine zkb ?_
       | (apply RKp.op; ((try simp (disch := (first | omega | exact zX | exact zO | fail)) only [hw0, lnT, ixT, ldT, lnQ, ixQ, ldQ, lnP, ixP', ldPi, ez, Int.toNat_natCast, go_sem, Nat.reduceDiv, Nat.reduceMod, Nat.reduceAdd, Nat.reduceSub, Nat.reduceEqDiff, Nat.reduceLeDiff, Nat.reduceLT, Nat.reduceMul, reduceIte, Nat.reducePow, Int.reduceEq]); exact zL); rfl)
       | (apply RKp.call; (apply hOi <;> (exact zD)); rfl)
       | (apply RKp.callR; (apply hOi <;> (exact zD)); rfl; intro tr htr)
       | (apply RKp.callO; (apply hOi <;> (exact zD)); rfl; intro tr)
       | (apply RKp.callRE; (apply hOi <;> (exact zD)); (intro x; rfl))
       | (apply RKp.callE; (apply hOi <;> (exact zD)); (intro x; rfl))
       | refine zkc ?_
       | apply RKg.tt
       | apply RKg.ff
       | refine zkd ?_
       | refine zke ?_
       | refine zkf ?_
       | (refine RKg.split (fun h => ?_) (fun h => ?_) <;> (try rw [h]) <;> (replace h := zB h) <;> (try (exfalso; first | exact h | omega)))
       | apply RK.nil
       | apply V.sq
       | apply V.bl
       | apply V.sc
       | apply V.skip
       | apply V.label
       | apply V.ret
       | apply V.exit
       | apply SeqQ.normal
       | apply SeqQ.ret
       | apply SeqQ.exit
       | apply BlockQ.normal
       | apply BlockQ.ret
       | apply BlockQ.here
       | refine zbt ?_
       | apply LoopS.ret
       | apply LoopS.exit
       | apply LoopF.ret
       | apply LoopF.exit
       | apply V.regK
        | refine zva ?_
       | refine zvb ?_
       | refine zgc ?_
       | refine zvd ?_
       | refine zve ?_
       | (refine zvf (fun h => ?_) (fun h => ?_) <;> (replace h := zB h) <;> (try (exfalso; first | exact h | omega)))
        | (refine zfc Tryz.results16 ?_; (try dsimp only)))
      all_goals first
        | (exfalso; simp at h; done)
        | exact LoopF.again (mt.length - (i + 1)) (by rfl) (by omega) ⟨i + 1, _, rfl, rfl, by omega⟩
        | trace_state
    · repeat' (first
       | refine zka ?_
       | refine zkb ?_
       | (apply RKp.op; ((try simp (disch := (first | omega | exact zX | exact zO | fail)) only [lnT, go_sem, Nat.reduceDiv, Nat.reduceMod, Nat.reduceAdd, Nat.reduceSub, Nat.reduceEqDiff, Nat.reduceLeDiff, Nat.reduceLT, Nat.reduceMul, reduceIte, Nat.reducePow, Int.reduceEq]); exact zL); rfl)
       | refine zkc ?_
       | apply RKg.tt
       | apply RKg.ff
       | refine zkd ?_
       | refine zke ?_
       | refine zkf ?_
       | (refine RKg.split (fun h => ?_) (fun h => ?_) <;> (try rw [h]) <;> (replace h := zB h) <;> (try (exfalso; first | exact h | omega)))
       | apply RK.nil
       | apply V.sq
       | apply V.bl
       | apply V.sc
       | apply V.skip
       | apply V.label
       | apply V.ret
       | apply V.exit
       | apply SeqQ.normal
       | apply SeqQ.ret
       | apply SeqQ.exit
       | apply BlockQ.normal
       | apply BlockQ.ret
       | apply BlockQ.here
       | refine zbt ?_
       | apply LoopS.ret
       | apply LoopS.exit
       | apply LoopF.ret
       | apply LoopF.exit
       | apply V.regK
        | refine zva ?_
       | refine zvb ?_
       | refine zgc ?_
       | refine zvd ?_
       | refine zve ?_
       | (refine zvf (fun h => ?_) (fun h => ?_) <;> (replace h := zB h) <;> (try (exfalso; first | exact h | omega)))
        | (refine zfc Tryz.results16 ?_; (try dsimp only)))
      all_goals first
        | (exfalso; omega)
        | rfl
        | trace_state
end
theorem ReflowOne_run (v : List AV) (hv : Wd Tryz.prog 6 22 v) (w : Int) (hw : (Lit.int .i64 w).wf = true) (u : List AV) (hu : Wd Tryz.prog 6 54 u) : WC EF [] 0 16 [v.getD 0 .dead, .v (.int .i64 w), u.getD 0 .dead] .empty fun x _ => x = .v (.bool true) := by
  obtain ⟨A, es, a, rfl, hA, hlen, hE⟩ := wd_rowsS (d := 1) hv
  obtain ⟨M, ms, rfl, hM, hml⟩ := wd_possS (d := 3) hu
  exact ReflowOne_law (fun ys lo H => begun_F) hA hlen hE w (i64_wf hw) hM hml
end Go.Am
