
/- LineBack: a line that is laid out is that line again. -/
import Derived.Test.YtmcimfmibpfnhaaGreatRLinU
import Derived.Test.YtmcimfmibpfnhaaGreatRLinC
set_option linter.all false
set_option linter.deprecated false
namespace Go.Am
variable {oc : Orc} [OrcI oc]
open Go.Proofs
set_option maxRecDepth 8000
set_option maxHeartbeats 4000000
theorem join_lay (w : Int) (hw1 : 2 ≤ w) (hw2 : w ≤ 300) (l : List Ce) (hg : lineG l) : joinL (lay w.toNat [] l) = [trimL l] := by
  have := join_all w hw1 hw2 [l] (fun m hm => by rw [List.mem_singleton.1 hm]; exact hg)
  rw [show allL [l] w = layL l w ++ [] from rfl, List.append_nil, show layL l w = lay w.toNat [] l from if_pos ⟨hw1, hw2, hg⟩] at this
  exact this
section
variable {A : AV} {l : List Ce}
theorem LineBack_law (hbe : ∀ ys lo H, CallR (ELo oc) ys lo 22 [] H (.v (.bool true)) H ⟨0, 0, 0⟩) (hA : Sl 3 A (cesA l)) (hl : l.length < 2 ^ 63) (h32 : R32 l) (a : Int) (ha : -9223372036854775808 ≤ a ∧ a ≤ 9223372036854775807) : WC (ELo oc) [] 0 5 [A, .v (.int .i64 a)] .empty fun x _ => x = .v (.bool true) := by
  generalize hEm : AHeap.empty = H0
  have hA' : SlH H0 3 A (cesA l) := .inl hA
  have hB := cut_Sl hA (min l.length 40)
  have hml : (l.take (min l.length 40)).length = min l.length 40 := by rw [List.length_take]; omega
  have h32' := R32_takeU h32 (min l.length 40)
  have slh := fun G => sl_hi 0 (H := G) (l := l) (.inl hA)
  have len0 := fun G => len_cell 0 (H := G) (l := l) (.inl hA)
  generalize hm : l.take (min l.length 40) = m at *
  generalize hmn : min l.length 40 = mn at *
  have hmm : (min (l.length : Int) 40) = mn := by omega
  have hmt : (mn : Int).toNat = mn := Int.toNat_natCast _
  generalize hcB : cutA A 0 mn = B at *
  obtain ⟨m1, m2, m3⟩ := mod_20 a
  have hw0 : 2 + (a.tmod 20 + 20).tmod 20 = 2 + a % 20 := by rw [m1]
  generalize hwd : 2 + a % 20 = w at *
  have hw1 : 2 ≤ w := by omega
  have hw2 : w ≤ 21 := by omega
  have hwn : (w.toNat : Int) = w := by omega
  have hLi := fun ys G => refLine_run (ys := ys) (lo := 0) (H := G) (.inl hB) (by omega) h32'
  have hLay := fun ys G => Layout_run (ys := ys) (lo := 0) (H := G) (.inl hB) (by omega) w
  by_cases hg : lineG m
  · simp only [decide_eq_true hg] at hLi
    have hlay : layL m w = lay w.toNat [] m := if_pos ⟨hw1, by omega, hg⟩
    have hRP : RsP (rowsA (layL m w)) (layL m w) := RsP.layL w h32'
    have hRA : ∀ G, SlH G 2 (rwA (layL m w)) (rowsA (layL m w)) := fun G => .inl (rwA_Sl _)
    have hj := join_lay w hw1 (by omega) m hg
    rw [hlay] at hRP hRA hLay
    have hall := lay_rows w.toNat (by omega) (by omega) m [] hg trivial (Nat.zero_le _)
    have hR32 := lay_R32 w.toNat m [] h32' R32_nil
    have hwr := lay_wrap w.toNat m []
    have hLL : (layL m w).length ≤ m.length + 1 := layL_le m w
    rw [hlay] at hLL
    generalize hR : lay w.toNat [] m = R at *
    generalize rwA R = RA at *
    generalize rowsA R = rs at *
    have hJ := fun ys G => Join_run (ys := ys) (lo := 0) (hRA G) hRP (by omega)
    rw [hj] at hJ
    refine zvin Tryz.func5 Tryz.ntmps5 ?_
    repeat' (first
     | refine zka ?_
     | refine zkb ?_
     | (apply RKp.op; ((try simp (disch := (first | omega | exact zX | exact zO | fail)) only [slh, len0, hmm, hmt, hcB, hw0, go_sem, Nat.reduceDiv, Nat.reduceMod, Nat.reduceAdd, Nat.reduceSub, Nat.reduceEqDiff, Nat.reduceLeDiff, Nat.reduceLT, Nat.reduceMul, reduceIte, Nat.reducePow, Int.reduceEq]); exact zL); rfl)
     | (apply RKp.call; (apply hbe <;> (exact zD)); rfl)
     | (apply RKp.callR; ((first | apply hbe | apply hLi | apply hLay) <;> (exact zD)); rfl; intro tr htr)
     | (apply RKp.callO; (apply hbe <;> (exact zD)); rfl; intro tr)
     | (apply RKp.callRE; (apply hbe <;> (exact zD)); (intro x; rfl))
     | (apply RKp.callE; (apply hbe <;> (exact zD)); (intro x; rfl))
     | (apply RKp.callNE; (apply hJ <;> (exact zD)); (intro x; rfl))
     | refine zkc ?_
     | apply RKg.tt
     | apply RKg.ff
     | refine zkd ?_
     | refine zke ?_
     | refine zkf ?_
     | (refine RKg.split (fun h => ?_) (fun h => ?_) <;> (try rw [h]) <;> (replace h := zB h) <;> (try (exfalso; first | exact h | omega)))
     | apply RK.nil
     | apply V.sq
     | apply V.bl
     | apply V.sc
     | apply V.skip
     | apply V.label
     | apply V.ret
     | apply V.exit
     | apply SeqQ.normal
     | apply SeqQ.ret
     | apply SeqQ.exit
     | apply BlockQ.normal
     | apply BlockQ.ret
     | apply BlockQ.here
     | refine zbt ?_
     | apply LoopS.ret
     | apply LoopS.exit
     | apply LoopF.ret
     | apply LoopF.exit
     | apply V.regK
      | refine zva ?_
     | refine zvb ?_
     | refine zgc ?_
     | refine zvd ?_
     | refine zve ?_
     | (refine zvf (fun h => ?_) (fun h => ?_) <;> (replace h := zB h) <;> (try (exfalso; first | exact h | omega)))
      | (refine zfc Tryz.results5 ?_; (try dsimp only)))
    rintro x H3 tr htr ⟨es', ho, hls, hx, -⟩
    have hO : SlH H3 1 x es' := ho.slh
    have hC : SlH H3 3 (bOf es' 0) (cesA (trimL m)) := .inl (hls.sl 0 Nat.zero_lt_one)
    have hl1 : ([trimL m] : List (List Ce)).length = 1 := rfl
    generalize ([trimL m] : List (List Ce)) = ls1 at hls hl1
    have htl : (trimL m).length ≤ m.length := by unfold trimL; rw [List.length_take]; omega
    have hT := fun ys => refTrim_run (ys := ys) (lo := 0) (H := H3) (.inl hB) (by omega : m.length < 2 ^ 40)
    repeat' (first
     | refine zka ?_
     | refine zkb ?_
     | (apply RKp.op; ((try simp (disch := (first | omega | exact zX | exact zO | fail)) only [Int.toNat_zero, lenL 0 hO hls, ixL 0 hO hls, ldL 0 hO hls, go_sem, Nat.reduceDiv, Nat.reduceMod, Nat.reduceAdd, Nat.reduceSub, Nat.reduceEqDiff, Nat.reduceLeDiff, Nat.reduceLT, Nat.reduceMul, reduceIte, Nat.reducePow, Int.reduceEq]); exact zL); rfl)
     | (apply RKp.callRE; (apply hT <;> (exact zD)); (intro x; rfl))
     | refine zkc ?_
     | apply RKg.tt
     | apply RKg.ff
     | refine zkd ?_
     | refine zke ?_
     | refine zkf ?_
     | (refine RKg.split (fun h => ?_) (fun h => ?_) <;> (try rw [h]) <;> (replace h := zB h) <;> (try (exfalso; first | exact h | omega)))
     | apply RK.nil
     | apply V.sq
     | apply V.bl
     | apply V.sc
     | apply V.skip
     | apply V.label
     | apply V.ret
     | apply V.exit
     | apply SeqQ.normal
     | apply SeqQ.ret
     | apply SeqQ.exit
     | apply BlockQ.normal
     | apply BlockQ.ret
     | apply BlockQ.here
     | refine zbt ?_
     | apply LoopS.ret
     | apply LoopS.exit
     | apply LoopF.ret
     | apply LoopF.exit
     | apply V.regK
      | refine zva ?_
     | refine zvb ?_
     | refine zgc ?_
     | refine zvd ?_
     | refine zve ?_
     | (refine zvf (fun h => ?_) (fun h => ?_) <;> (replace h := zB h) <;> (try (exfalso; first | exact h | omega)))
      | (refine zfc Tryz.results5 ?_; (try dsimp only)))
    rintro y tr2 htr2 hy
    have hEq := fun ys => EqCells_run (ys := ys) (lo := 0) hC (.inl hy : SlH H3 3 y (cesA (trimL m))) (by omega) (by omega)
    rw [decide_eq_true rfl] at hEq
    repeat' (first
     | refine zka ?_
     | refine zkb ?_
     | (apply RKp.op; ((try simp (disch := (first | omega | exact zX | exact zO | fail)) only [go_sem, Nat.reduceDiv, Nat.reduceMod, Nat.reduceAdd, Nat.reduceSub, Nat.reduceEqDiff, Nat.reduceLeDiff, Nat.reduceLT, Nat.reduceMul, reduceIte, Nat.reducePow, Int.reduceEq]); exact zL); rfl)
     | (apply RKp.callR; (apply hEq <;> (exact zD)); rfl; intro tr htr)
     | refine zkc ?_
     | apply RKg.tt
     | apply RKg.ff
     | refine zkd ?_
     | refine zke ?_
     | refine zkf ?_
     | (refine RKg.split (fun h => ?_) (fun h => ?_) <;> (try rw [h]) <;> (replace h := zB h) <;> (try (exfalso; first | exact h | omega)))
     | apply RK.nil
     | apply V.sq
     | apply V.bl
     | apply V.sc
     | apply V.skip
     | apply V.label
     | apply V.ret
     | apply V.exit
     | apply SeqQ.normal
     | apply SeqQ.ret
     | apply SeqQ.exit
     | apply BlockQ.normal
     | apply BlockQ.ret
     | apply BlockQ.here
     | refine zbt ?_
     | apply LoopS.ret
     | apply LoopS.exit
     | apply LoopF.ret
     | apply LoopF.exit
     | apply V.regK
      | refine zva ?_
     | refine zvb ?_
     | refine zgc ?_
     | refine zvd ?_
     | refine zve ?_
     | (refine zvf (fun h => ?_) (fun h => ?_) <;> (replace h := zB h) <;> (try (exfalso; first | exact h | omega)))
      | (refine zfc Tryz.results5 ?_; (try dsimp only)))
    apply V.lpF [8, 4, 45, 46, 47, 48, 49, 50, 51, 52, 53, 54, 55, 56, 57, 58, 59, 60, 61, 62, 63, 64, 65, 66, 67, 68, 69, 70, 71, 72, 73, 74, 75, 76, 77, 78, 79] (fun k xs => ∃ (i : Nat) (g : _), xs = .v (.int .i64 i) :: g ∧ k = R.length - i ∧ i ≤ R.length) R.length
    focus (intro xs; simp only [putMany, set2, Nat.reduceAdd, Nat.reduceDiv, Nat.reduceMod, nth_zero, nth_succ, List.set_cons_zero, List.set_cons_succ]; rfl)
    focus (first | rfl | simp only [readMany, nth_zero, nth_succ, Nat.reduceDiv, Nat.reduceMod])
    · exact ⟨0, _, rfl, rfl, Nat.zero_le _⟩
    · rintro k xs ⟨i, g, rfl, rfl, hi⟩
      have hRA3 : SlH H3 2 RA rs := hRA H3
      by_cases hlt : i < R.length
      · have hmem : R.getD i noRw ∈ R := by rw [List.getD_eq_getElem?_getD, List.getElem?_eq_getElem hlt]; exact List.getElem_mem hlt
        have hC2 : ∀ G, SlH G 3 (bOf rs i) (cesA (R.getD i noRw).1) := fun G => .inl (hRP.sl i hlt)
        obtain ⟨q1, q2⟩ := hall _ hmem
        have q3 := hwr i hlt
        have q4 := hR32 _ hmem
        have hRow := fun ys G => Row_R (ys := ys) (lo := 0) (H := G) (wr := (R.getD i noRw).2) (hC2 G) (by omega) q4
        rw [decide_eq_true q2] at hRow
        simp only [q3] at hRow
        have lnr := fun G => len_cell 0 (H := G) (hC2 G)
        rw [q1] at lnr
        have hdd : (decide (i + 1 < R.length) == decide ((i : Int) < (R.length : Int) - 1)) = true := by
          rw [beq_iff_eq, decide_eq_decide]; omega
        repeat' (first
         | refine zka ?_
         | refine zkb ?_
         | (apply RKp.op; ((try simp (disch := (first | omega | exact zX | exact zO | fail)) only [lenR 0 hRA3 hRP, ixR 0 hRA3 hRP, ldR 0 hRA3 hRP, faR 0 hRA3, lcR 0 hRA3 hRP, lwR 0 hRA3 hRP, lnr, hwn, Int.toNat_natCast, q3, go_sem, Nat.reduceDiv, Nat.reduceMod, Nat.reduceAdd, Nat.reduceSub, Nat.reduceEqDiff, Nat.reduceLeDiff, Nat.reduceLT, Nat.reduceMul, reduceIte, Nat.reducePow, Int.reduceEq]); exact zL); rfl)
         | (apply RKp.callR; (apply hRow <;> (exact zD)); rfl; intro tr htr)
         | refine zkc ?_
         | apply RKg.tt
         | apply RKg.ff
         | refine zkd ?_
         | refine zke ?_
         | refine zkf ?_
         | (refine RKg.split (fun h => ?_) (fun h => ?_) <;> (try rw [h]) <;> (replace h := zB h) <;> (try (exfalso; first | exact h | omega)))
         | apply RK.nil
         | apply V.sq
         | apply V.bl
         | apply V.sc
         | apply V.skip
         | apply V.label
         | apply V.ret
         | apply V.exit
         | apply SeqQ.normal
         | apply SeqQ.ret
         | apply SeqQ.exit
         | apply BlockQ.normal
         | apply BlockQ.ret
         | apply BlockQ.here
         | refine zbt ?_
         | apply LoopS.ret
         | apply LoopS.exit
         | apply LoopF.ret
         | apply LoopF.exit
         | apply V.regK
          | refine zva ?_
         | refine zvb ?_
         | refine zgc ?_
         | refine zvd ?_
         | refine zve ?_
         | (refine zvf (fun h => ?_) (fun h => ?_) <;> (replace h := zB h) <;> (try (exfalso; first | exact h | omega)))
          | (refine zfc Tryz.results5 ?_; (try dsimp only)))
        all_goals first
          | exact LoopF.again (R.length - (i + 1)) (by rfl) (by omega) ⟨i + 1, _, rfl, rfl, by omega⟩
          | (exfalso; rename_i h; rw [hdd] at h; cases h)
      · repeat' (first
         | refine zka ?_
         | refine zkb ?_
         | (apply RKp.op; ((try simp (disch := (first | omega | exact zX | exact zO | fail)) only [lenR 0 hRA3 hRP, go_sem, Nat.reduceDiv, Nat.reduceMod, Nat.reduceAdd, Nat.reduceSub, Nat.reduceEqDiff, Nat.reduceLeDiff, Nat.reduceLT, Nat.reduceMul, reduceIte, Nat.reducePow, Int.reduceEq]); exact zL); rfl)
         | refine zkc ?_
         | apply RKg.tt
         | apply RKg.ff
         | refine zkd ?_
         | refine zke ?_
         | refine zkf ?_
         | (refine RKg.split (fun h => ?_) (fun h => ?_) <;> (try rw [h]) <;> (replace h := zB h) <;> (try (exfalso; first | exact h | omega)))
         | apply RK.nil
         | apply V.sq
         | apply V.bl
         | apply V.sc
         | apply V.skip
         | apply V.label
         | apply V.ret
         | apply V.exit
         | apply SeqQ.normal
         | apply SeqQ.ret
         | apply SeqQ.exit
         | apply BlockQ.normal
         | apply BlockQ.ret
         | apply BlockQ.here
         | refine zbt ?_
         | apply LoopS.ret
         | apply LoopS.exit
         | apply LoopF.ret
         | apply LoopF.exit
         | apply V.regK
          | refine zva ?_
         | refine zvb ?_
         | refine zgc ?_
         | refine zvd ?_
         | refine zve ?_
         | (refine zvf (fun h => ?_) (fun h => ?_) <;> (replace h := zB h) <;> (try (exfalso; first | exact h | omega)))
          | (refine zfc Tryz.results5 ?_; (try dsimp only)))
  · simp only [decide_eq_false hg] at hLi
    have hlay : layL m w = [] := if_neg fun z => hg z.2.2
    rw [hlay] at hLay
    have hz2 : rwA [] = .v (.slice none 0 0) := rfl
    rw [hz2] at hLay
    refine zvin Tryz.func5 Tryz.ntmps5 ?_
    repeat' (first
     | refine zka ?_
     | refine zkb ?_
     | (apply RKp.op; ((try simp (disch := (first | omega | exact zX | exact zO | fail)) only [slh, len0, hmm, hmt, hcB, hw0, go_sem, Nat.reduceDiv, Nat.reduceMod, Nat.reduceAdd, Nat.reduceSub, Nat.reduceEqDiff, Nat.reduceLeDiff, Nat.reduceLT, Nat.reduceMul, reduceIte, Nat.reducePow, Int.reduceEq]); exact zL); rfl)
     | (apply RKp.call; (apply hbe <;> (exact zD)); rfl)
     | (apply RKp.callR; ((first | apply hbe | apply hLi | apply hLay) <;> (exact zD)); rfl; intro tr htr)
     | (apply RKp.callO; (apply hbe <;> (exact zD)); rfl; intro tr)
     | (apply RKp.callRE; (apply hbe <;> (exact zD)); (intro x; rfl))
     | (apply RKp.callE; (apply hbe <;> (exact zD)); (intro x; rfl))
     | refine zkc ?_
     | apply RKg.tt
     | apply RKg.ff
     | refine zkd ?_
     | refine zke ?_
     | refine zkf ?_
     | (refine RKg.split (fun h => ?_) (fun h => ?_) <;> (try rw [h]) <;> (replace h := zB h) <;> (try (exfalso; first | exact h | omega)))
     | apply RK.nil
     | apply V.sq
     | apply V.bl
     | apply V.sc
     | apply V.skip
     | apply V.label
     | apply V.ret
     | apply V.exit
     | apply SeqQ.normal
     | apply SeqQ.ret
     | apply SeqQ.exit
     | apply BlockQ.normal
     | apply BlockQ.ret
     | apply BlockQ.here
     | refine zbt ?_
     | apply LoopS.ret
     | apply LoopS.exit
     | apply LoopF.ret
     | apply LoopF.exit
     | apply V.regK
      | refine zva ?_
     | refine zvb ?_
     | refine zgc ?_
     | refine zvd ?_
     | refine zve ?_
     | (refine zvf (fun h => ?_) (fun h => ?_) <;> (replace h := zB h) <;> (try (exfalso; first | exact h | omega)))
      | (refine zfc Tryz.results5 ?_; (try dsimp only)))
    all_goals rw [decide_true]
end
end Go.Am
