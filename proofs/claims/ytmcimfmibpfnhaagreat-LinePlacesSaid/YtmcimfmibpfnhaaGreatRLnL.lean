
/- LinePlaces: each cell of each line has its place. -/
import Derived.Test.YtmcimfmibpfnhaaGreatRLnS
import Derived.Test.YtmcimfmibpfnhaaGreatRLnA
import Derived.Test.YtmcimfmibpfnhaaGreatRLnF
set_option linter.all false
set_option linter.deprecated false
namespace Go.Am
variable {oc : Orc} [OrcI oc]
open Go.Proofs
set_option maxRecDepth 8000
set_option maxHeartbeats 8000000
theorem allL_mem {ls : List (List Ce)} {w : Int} (h32 : ∀ l ∈ ls, R32 l) : (∀ r ∈ allL ls w, r.1.length < 2 ^ 20) ∧ ∀ r ∈ allL ls w, R32 r.1 := by
  refine ⟨fun r hr => ?_, fun r hr => ?_⟩
  · obtain ⟨l, _, h2⟩ := List.mem_flatMap.1 hr
    exact layL_300 r h2
  · obtain ⟨l, h1, h2⟩ := List.mem_flatMap.1 hr
    exact layL_R32 w (h32 l h1) r h2
theorem LsP.mem {es : List (List AV)} {ls : List (List Ce)} (h : LsP es ls) : ∀ l ∈ ls, R32 l := fun l hl => by
  obtain ⟨j, hj, rfl⟩ := List.mem_iff_getElem.1 hl
  have := h.r32 j hj
  rwa [List.getD_eq_getElem?_getD, List.getElem?_eq_getElem hj] at this
theorem RsP.allL {ls : List (List Ce)} (w : Int) (h32 : ∀ l ∈ ls, R32 l) : RsP (Go.Am.rowsA (Go.Am.allL ls w)) (Go.Am.allL ls w) := RsP.rowsA (allL_mem h32).1 (allL_mem h32).2
section
variable {A : AV} {es : List (List AV)} {ls : List (List Ce)}
theorem LinePlaces_law (hbe : ∀ ys lo H, CallR (ELo oc) ys lo 22 [] H (.v (.bool true)) H ⟨0, 0, 0⟩) (hA : Sl 1 A es) (hB : LsB es ls) (hl : es.length < 2 ^ 63) (a : Int) (ha : -9223372036854775808 ≤ a ∧ a ≤ 9223372036854775807) : WC (ELo oc) [] 0 6 [A, .v (.int .i64 a)] .empty fun x _ => x = .v (.bool true) := by
  generalize hEm : AHeap.empty = H0
  have hLs := fun ys G => Lines_run (ys := ys) (lo := 0) (H := G) (.inl hA) hB hl
  obtain ⟨m1, m2, m3⟩ := mod_12 a
  have hw0 : 2 + (a.tmod 12 + 12).tmod 12 = 2 + a % 12 := by rw [m1]
  generalize hwd : 2 + a % 12 = w at *
  have hw1 : 2 ≤ w := by omega
  have hw2 : w ≤ 13 := by omega
  refine zvin Tryz.func6 Tryz.ntmps6 ?_
  repeat' (first
   | refine zka ?_
   | refine zkb ?_
   | (apply RKp.op; ((try simp (disch := (first | omega | exact zX | exact zO | fail)) only [hw0, go_sem, Nat.reduceDiv, Nat.reduceMod, Nat.reduceAdd, Nat.reduceSub, Nat.reduceEqDiff, Nat.reduceLeDiff, Nat.reduceLT, Nat.reduceMul, reduceIte, Nat.reducePow, Int.reduceEq]); exact zL); rfl)
   | (apply RKp.call; (apply hbe <;> (exact zD)); rfl)
   | (apply RKp.callR; (apply hbe <;> (exact zD)); rfl; intro tr htr)
   | (apply RKp.callO; (apply hbe <;> (exact zD)); rfl; intro tr)
   | (apply RKp.callRE; ((first | apply hbe | apply hLs) <;> (exact zD)); (intro x; rfl))
   | (apply RKp.callE; (apply hbe <;> (exact zD)); (intro x; rfl))
   | refine zkc ?_
   | apply RKg.tt
   | apply RKg.ff
   | refine zkd ?_
   | refine zke ?_
   | refine zkf ?_
   | (refine RKg.split (fun h => ?_) (fun h => ?_) <;> (try rw [h]) <;> (replace h := zB h) <;> (try (exfalso; first | exact h | omega)))
   | apply RK.nil
   | apply V.sq
   | apply V.bl
   | apply V.sc
   | apply V.skip
   | apply V.label
   | apply V.ret
   | apply V.exit
   | apply SeqQ.normal
   | apply SeqQ.ret
   | apply SeqQ.exit
   | apply BlockQ.normal
   | apply BlockQ.ret
   | apply BlockQ.here
   | refine zbt ?_
   | apply LoopS.ret
   | apply LoopS.exit
   | apply LoopF.ret
   | apply LoopF.exit
   | apply V.regK
    | refine zva ?_
   | refine zvb ?_
   | refine zgc ?_
   | refine zvd ?_
   | refine zve ?_
   | (refine zvf (fun h => ?_) (fun h => ?_) <;> (replace h := zB h) <;> (try (exfalso; first | exact h | omega)))
    | (refine zfc Tryz.results6 ?_; (try dsimp only)))
  rintro x tr htr ⟨es', hx, hls⟩
  have hgl := fun l hl => (linesL_G (ls := ls) l hl).1
  have hg40 := fun l hl => (linesL_G (ls := ls) l hl).2
  have hl10 := linesL_len ls
  generalize linesL ls = L at *
  have hbd := allL_bd L w hl10 hg40
  have hX : ∀ G, SlH G 1 x es' := fun G => .inl hx
  have hXe : SlH H0 1 x es' := .inl hx
  have hPl := fun ys G line off => Place_run (ys := ys) (lo := 0) (hX G) hls (by omega) (fun j hj => by
    have := hg40 (L.getD j []) (by rw [List.getD_eq_getElem?_getD, List.getElem?_eq_getElem hj]; exact List.getElem_mem hj)
    omega) w line off 0 (by omega) (by omega) (by omega)
  have hAll := fun ys G => All_run (ys := ys) (lo := 0) (hX G) hls w (by omega) (by omega)
  have hrs := RsP.allL w (hls.mem)
  have hRS : ∀ G, SlH G 2 (rwA (allL L w)) (rowsA (allL L w)) := fun G => .inl (rwA_Sl _)
  have hSp := fun ys G pr pc => Spot_run (ys := ys) (lo := 0) (hRS G) hrs (by omega) pr pc
  have hsl := fun i k hi hk => spot_place w hw1 (by omega) L hgl i k hi hk
  have hpa := fun i k hi hk => place_at w hw1 (by omega) L hgl i k hi hk
  have htk := fun i hi => allL_take (ls := L) (w := w) (i := i) hi
  have hRle := fun i => allL_le L w i
  generalize hRA : rwA (allL L w) = RA at *
  generalize hRE : rowsA (allL L w) = RE at *
  generalize hRW : allL L w = RS at *
  repeat' (first
   | refine zka ?_
   | refine zkb ?_
   | (apply RKp.op; ((try simp (disch := (first | omega | exact zX | exact zO | fail)) only [hw0, lenL 0 hXe hls, go_sem, Nat.reduceDiv, Nat.reduceMod, Nat.reduceAdd, Nat.reduceSub, Nat.reduceEqDiff, Nat.reduceLeDiff, Nat.reduceLT, Nat.reduceMul, reduceIte, Nat.reducePow, Int.reduceEq]); exact zL); rfl)
   | (apply RKp.callR; (apply hAll <;> (exact zD)); rfl; intro tr htr)
   | refine zkc ?_
   | apply RKg.tt
   | apply RKg.ff
   | refine zkd ?_
   | refine zke ?_
   | refine zkf ?_
   | (refine RKg.split (fun h => ?_) (fun h => ?_) <;> (try rw [h]) <;> (replace h := zB h) <;> (try (exfalso; first | exact h | omega)))
   | apply RK.nil
   | apply V.sq
   | apply V.bl
   | apply V.sc
   | apply V.skip
   | apply V.label
   | apply V.ret
   | apply V.exit
   | apply SeqQ.normal
   | apply SeqQ.ret
   | apply SeqQ.exit
   | apply BlockQ.normal
   | apply BlockQ.ret
   | apply BlockQ.here
   | refine zbt ?_
   | apply LoopS.ret
   | apply LoopS.exit
   | apply LoopF.ret
   | apply LoopF.exit
   | apply V.regK
    | refine zva ?_
   | refine zvb ?_
   | refine zgc ?_
   | refine zvd ?_
   | refine zve ?_
   | (refine zvf (fun h => ?_) (fun h => ?_) <;> (replace h := zB h) <;> (try (exfalso; first | exact h | omega)))
    | (refine zfc Tryz.results6 ?_; (try dsimp only)))
  apply V.lpS [8, 4, 9, 10, 11, 26, 27, 28, 29, 30, 31, 32, 33, 34, 35, 36, 37, 38, 39, 40, 41, 42, 43, 44, 45, 46, 47, 48, 49, 50, 51, 52, 53, 54, 55, 56, 57, 58, 59, 60, 61, 62, 63, 64, 65, 66, 67, 68, 69, 70, 71, 72, 73, 74, 75, 76, 77, 78, 79, 80, 81, 82, 83, 84, 85, 86, 87, 88, 89, 90, 91, 92, 93, 94, 95, 96, 97, 98, 99, 100, 101, 102, 103, 104, 105, 106, 107, 108, 109, 110, 111, 112, 113, 114, 115, 116, 117, 118, 119, 120, 121, 122, 123] (fun k xs H2 => ∃ (i : Nat) (g : _) (lr lc : Int), xs = .v (.int .i64 i) :: g ∧ k = L.length - i ∧ i ≤ L.length ∧ Ext H0 H2 ∧ H0.next + 1 ≤ H2.next ∧ H2.get H0.next = some (poBlk lr lc) ∧ lr < (allL (L.take i) w).length) L.length
  focus (intro xs; simp only [putMany, set2, Nat.reduceAdd, Nat.reduceDiv, Nat.reduceMod, nth_zero, nth_succ, List.set_cons_zero, List.set_cons_succ]; rfl)
  focus (first | rfl | simp only [readMany, nth_zero, nth_succ, Nat.reduceDiv, Nat.reduceMod])
  · refine ⟨0, _, -1, 0, rfl, rfl, Nat.zero_le _, by exact zX, by (first | omega | (simp only [next_push, next_set, next_empty]; done) | (simp only [next_push, next_set, next_empty]; omega)), by simp (disch := (first | omega | exact zX | fail)) only [get_set, get_push, next_push, next_set, if_pos', if_neg', if_true, if_false, reduceIte], by omega⟩
  · rintro k xs H2 ⟨i, g, lr, lc, rfl, rfl, hi, hx2, hn2, g0, hlr⟩
    have hX2 : SlH H2 1 x es' := .inl hx
    by_cases hlt : i < L.length
    · have hmem : L.getD i [] ∈ L := by rw [List.getD_eq_getElem?_getD, List.getElem?_eq_getElem hlt]; exact List.getElem_mem hlt
      have hTm := fun ys G => refTrim_run (ys := ys) (lo := 0) (H := G) (.inl (hls.sl i hlt)) (hls.lt i hlt)
      have hspi := fun k => hsl i k hlt
      have hpai := fun k => hpa i k hlt
      have htki := htk i hlt
      have hlti := fun k => posA_lt w.toNat (L.getD i []) 0 0 k (hgl _ hmem)
      have htl : (trimL (L.getD i [])).length ≤ (L.getD i []).length := by
        have := trimL_len (L.getD i [])
        have := usedN_le (L.getD i []) (L.getD i []).length
        omega
      have hl40 := hg40 _ hmem
      have hRi := hRle (i + 1)
      have hRn : (allL (L.take (i + 1)) w).length = (allL (L.take i) w).length + (layL (L.getD i []) w).length := by rw [htki, List.length_append]
      repeat' (first
       | refine zka ?_
       | refine zkb ?_
       | (apply RKp.op; ((try simp (disch := (first | omega | exact zX | exact zO | fail)) only [lenL 0 hX2 hls, ixL 0 hX2 hls, ldL 0 hX2 hls, Int.toNat_natCast, go_sem, Nat.reduceDiv, Nat.reduceMod, Nat.reduceAdd, Nat.reduceSub, Nat.reduceEqDiff, Nat.reduceLeDiff, Nat.reduceLT, Nat.reduceMul, reduceIte, Nat.reducePow, Int.reduceEq]); exact zL); rfl)
       | (apply RKp.callRE; (apply hTm <;> (exact zD)); (intro x; rfl))
       | refine zkc ?_
       | apply RKg.tt
       | apply RKg.ff
       | refine zkd ?_
       | refine zke ?_
       | refine zkf ?_
       | (refine RKg.split (fun h => ?_) (fun h => ?_) <;> (try rw [h]) <;> (replace h := zB h) <;> (try (exfalso; first | exact h | omega)))
       | apply RK.nil
       | apply V.sq
       | apply V.bl
       | apply V.sc
       | apply V.skip
       | apply V.label
       | apply V.ret
       | apply V.exit
       | apply SeqQ.normal
       | apply SeqQ.ret
       | apply SeqQ.exit
       | apply BlockQ.normal
       | apply BlockQ.ret
       | apply BlockQ.here
       | refine zbt ?_
       | apply LoopS.ret
       | apply LoopS.exit
       | apply LoopF.ret
       | apply LoopF.exit
       | apply V.regK
        | refine zva ?_
       | refine zvb ?_
       | refine zgc ?_
       | refine zvd ?_
       | refine zve ?_
       | (refine zvf (fun h => ?_) (fun h => ?_) <;> (replace h := zB h) <;> (try (exfalso; first | exact h | omega)))
        | (refine zfc Tryz.results6 ?_; (try dsimp only)))
      rintro t tr2 htr2 ht
      generalize L.getD i [] = l at *
      generalize hR0 : (allL (L.take i) w).length = R0 at *
      generalize hR1 : (allL (L.take (i + 1)) w).length = R1 at *
      have hT : ∀ G, SlH G 3 t (cesA (trimL l)) := fun G => .inl ht
      have lnt := fun G => len_cell 0 (hT G)
      have ixt := fun G => ix_cell 0 (hT G)
      have ldt := fun G => ld_cell 0 (hT G)
      repeat' (first
       | refine zka ?_
       | refine zkb ?_
       | (apply RKp.op; ((try simp (disch := (first | omega | exact zX | exact zO | fail)) only [go_sem, Nat.reduceDiv, Nat.reduceMod, Nat.reduceAdd, Nat.reduceSub, Nat.reduceEqDiff, Nat.reduceLeDiff, Nat.reduceLT, Nat.reduceMul, reduceIte, Nat.reducePow, Int.reduceEq]); exact zL); rfl)
       | refine zkc ?_
       | apply RKg.tt
       | apply RKg.ff
       | refine zkd ?_
       | refine zke ?_
       | refine zkf ?_
       | (refine RKg.split (fun h => ?_) (fun h => ?_) <;> (try rw [h]) <;> (replace h := zB h) <;> (try (exfalso; first | exact h | omega)))
       | apply RK.nil
       | apply V.sq
       | apply V.bl
       | apply V.sc
       | apply V.skip
       | apply V.label
       | apply V.ret
       | apply V.exit
       | apply SeqQ.normal
       | apply SeqQ.ret
       | apply SeqQ.exit
       | apply BlockQ.normal
       | apply BlockQ.ret
       | apply BlockQ.here
       | refine zbt ?_
       | apply LoopS.ret
       | apply LoopS.exit
       | apply LoopF.ret
       | apply LoopF.exit
       | apply V.regK
        | refine zva ?_
       | refine zvb ?_
       | refine zgc ?_
       | refine zvd ?_
       | refine zve ?_
       | (refine zvf (fun h => ?_) (fun h => ?_) <;> (replace h := zB h) <;> (try (exfalso; first | exact h | omega)))
        | (refine zfc Tryz.results6 ?_; (try dsimp only)))
      apply V.lpS [10, 4, 11, 37, 38, 39, 40, 41, 42, 43, 44, 45, 46, 47, 48, 49, 50, 51, 52, 53, 54, 55, 56, 57, 58, 59, 60, 61, 62, 63, 64, 65, 66, 67, 68, 69, 70, 71, 72, 73, 74, 75, 76, 77, 78, 79, 80, 81, 82, 83, 84, 85, 86, 87, 88, 89, 90, 91, 92, 93, 94, 95, 96, 97, 98, 99, 100, 101, 102, 103, 104, 105, 106, 107, 108, 109, 110, 111, 112, 113, 114, 115, 116, 117, 118, 119, 120, 121, 122, 123] (fun k xs H3 => ∃ (j : Nat) (g : _) (lr lc : Int), xs = .v (.int .i64 j) :: g ∧ k = (trimL l).length - j ∧ j ≤ (trimL l).length ∧ Ext H0 H3 ∧ H0.next + 1 ≤ H3.next ∧ H3.get H0.next = some (poBlk lr lc) ∧ lr < R1 ∧ (j < (trimL l).length → lr < (placeL L w i j 0).1 ∨ lr = (placeL L w i j 0).1 ∧ lc < (placeL L w i j 0).2)) (trimL l).length
      focus (intro xs; simp only [putMany, set2, Nat.reduceAdd, Nat.reduceDiv, Nat.reduceMod, nth_zero, nth_succ, List.set_cons_zero, List.set_cons_succ]; rfl)
      focus (first | rfl | simp only [readMany, nth_zero, nth_succ, Nat.reduceDiv, Nat.reduceMod])
      · refine ⟨0, _, lr, lc, rfl, rfl, Nat.zero_le _, hx2, hn2, g0, by omega, fun z => .inl ?_⟩
        rw [(hpai 0 (by omega)).1]; dsimp only; omega
      · rintro k xs H3 ⟨j, g, lr3, lc3, rfl, rfl, hj, hx3, hn3, k0, hlr3, hlx⟩
        by_cases hlt2 : j < (trimL l).length
        · have hlx := hlx hlt2
          obtain ⟨row, q1, q2, q3, q4, q5⟩ := hspi j hlt2
          obtain ⟨r1, r2, -⟩ := hpai j (by omega)
          have hnxt : j + 1 < (trimL l).length → ((placeL L w i j 0).1 : Int) < (placeL L w i (j + 1 : Nat) 0).1 ∨ ((placeL L w i j 0).1 : Int) = (placeL L w i (j + 1 : Nat) 0).1 ∧ ((placeL L w i j 0).2 : Int) < (placeL L w i (j + 1 : Nat) 0).2 := fun z => by
            obtain ⟨s1, -, -⟩ := hpai (j + 1) (by omega)
            have := hlti j (by omega)
            rw [r1, s1]
            dsimp only
            rcases this with y | ⟨y1, y2⟩
            · left; omega
            · right; exact ⟨by omega, by omega⟩
          have hP := fun ys G => hPl ys G i j
          have hS := fun ys G => hSp ys G (placeL L w i j 0).1 (placeL L w i j 0).2
          simp only [q5] at hS
          have hp1 : (placeL L w i j 0).1 < R1 := by rw [r1]; dsimp only; omega
          generalize placeL L w i j 0 = p at *
          obtain ⟨p1, p2⟩ := p
          dsimp only at *
          have hrow : RS.getD p1 noRw = row := by rw [List.getD_eq_getElem?_getD, q1]; rfl
          have hC : ∀ G, SlH G 3 (bOf RE p1) (cesA row.1) := fun G => by have := hrs.sl p1 (by omega); rw [hrow] at this; exact .inl this
          have lnc := fun G => len_cell 0 (hC G)
          have ixc := fun G => ix_cell 0 (hC G)
          have ldc := fun G => ld_cell 0 (hC G)
          repeat' (first
           | refine zka ?_
           | refine zkb ?_
           | (apply RKp.op; ((try simp (disch := (first | omega | exact zX | exact zO | fail)) only [k0, lnt, ixt, ldt, lnc, ixc, ldc, lenR 0 (hRS H0) hrs, ixR 0 (hRS H0) hrs, faR 0 (hRS H0), lcR 0 (hRS H0) hrs, q2, q4, Int.toNat_natCast, go_sem, Nat.reduceDiv, Nat.reduceMod, Nat.reduceAdd, Nat.reduceSub, Nat.reduceEqDiff, Nat.reduceLeDiff, Nat.reduceLT, Nat.reduceMul, reduceIte, Nat.reducePow, Int.reduceEq]); exact zL); rfl)
           | (apply RKp.call; ((first | apply hP | apply hS) <;> (exact zD)); rfl)
           | (apply RKp.callR; ((first | apply hP | apply hS) <;> (exact zD)); rfl; intro tr htr)
           | (apply RKp.callO; ((first | apply hP | apply hS) <;> (exact zD)); rfl; intro tr)
           | (apply RKp.callRE; ((first | apply hP | apply hS) <;> (exact zD)); (intro x; rfl))
           | (apply RKp.callE; ((first | apply hP | apply hS) <;> (exact zD)); (intro x; rfl))
           | refine zkc ?_
           | apply RKg.tt
           | apply RKg.ff
           | refine zkd ?_
           | refine zke ?_
           | refine zkf ?_
           | (refine RKg.split (fun h => ?_) (fun h => ?_) <;> (try rw [h]) <;> (replace h := zB h) <;> (try (exfalso; first | exact h | omega)))
           | apply RK.nil
           | apply V.sq
           | apply V.bl
           | apply V.sc
           | apply V.skip
           | apply V.label
           | apply V.ret
           | apply V.exit
           | apply SeqQ.normal
           | apply SeqQ.ret
           | apply SeqQ.exit
           | apply BlockQ.normal
           | apply BlockQ.ret
           | apply BlockQ.here
           | refine zbt ?_
           | apply LoopS.ret
           | apply LoopS.exit
           | apply LoopF.ret
           | apply LoopF.exit
           | apply V.regK
            | refine zva ?_
           | refine zvb ?_
           | refine zgc ?_
           | refine zvd ?_
           | refine zve ?_
           | (refine zvf (fun h => ?_) (fun h => ?_) <;> (replace h := zB h) <;> (try (exfalso; first | exact h | omega)))
            | (refine zfc Tryz.results6 ?_; (try dsimp only)))
          all_goals first
            | (exfalso; omega)
            | (exfalso; simp at h; done)
            | exact LoopS.again ((trimL l).length - (j + 1)) (by rfl) (by omega) ⟨j + 1, _, p1, p2, rfl, rfl, by omega, by exact zX, by (first | omega | (simp only [next_push, next_set, next_empty]; done) | (simp only [next_push, next_set, next_empty]; omega)), by simp (disch := (first | omega | exact zX | fail)) only [get_set, get_push, next_push, next_set, if_pos', if_neg', if_true, if_false, reduceIte], by omega, hnxt⟩
            | trace_state
        · repeat' (first
           | refine zka ?_
           | refine zkb ?_
           | (apply RKp.op; ((try simp (disch := (first | omega | exact zX | exact zO | fail)) only [lnt, go_sem, Nat.reduceDiv, Nat.reduceMod, Nat.reduceAdd, Nat.reduceSub, Nat.reduceEqDiff, Nat.reduceLeDiff, Nat.reduceLT, Nat.reduceMul, reduceIte, Nat.reducePow, Int.reduceEq]); exact zL); rfl)
           | refine zkc ?_
           | apply RKg.tt
           | apply RKg.ff
           | refine zkd ?_
           | refine zke ?_
           | refine zkf ?_
           | (refine RKg.split (fun h => ?_) (fun h => ?_) <;> (try rw [h]) <;> (replace h := zB h) <;> (try (exfalso; first | exact h | omega)))
           | apply RK.nil
           | apply V.sq
           | apply V.bl
           | apply V.sc
           | apply V.skip
           | apply V.label
           | apply V.ret
           | apply V.exit
           | apply SeqQ.normal
           | apply SeqQ.ret
           | apply SeqQ.exit
           | apply BlockQ.normal
           | apply BlockQ.ret
           | apply BlockQ.here
           | refine zbt ?_
           | apply LoopS.ret
           | apply LoopS.exit
           | apply LoopF.ret
           | apply LoopF.exit
           | apply V.regK
            | refine zva ?_
           | refine zvb ?_
           | refine zgc ?_
           | refine zvd ?_
           | refine zve ?_
           | (refine zvf (fun h => ?_) (fun h => ?_) <;> (replace h := zB h) <;> (try (exfalso; first | exact h | omega)))
            | (refine zfc Tryz.results6 ?_; (try dsimp only)))
          all_goals first
            | exact LoopS.again (L.length - (i + 1)) (by rfl) (by omega) ⟨i + 1, _, lr3, lc3, rfl, rfl, by omega, hx3, hn3, k0, by rw [hR1]; exact hlr3⟩
            | trace_state
    · repeat' (first
       | refine zka ?_
       | refine zkb ?_
       | (apply RKp.op; ((try simp (disch := (first | omega | exact zX | exact zO | fail)) only [lenL 0 hX2 hls, go_sem, Nat.reduceDiv, Nat.reduceMod, Nat.reduceAdd, Nat.reduceSub, Nat.reduceEqDiff, Nat.reduceLeDiff, Nat.reduceLT, Nat.reduceMul, reduceIte, Nat.reducePow, Int.reduceEq]); exact zL); rfl)
       | refine zkc ?_
       | apply RKg.tt
       | apply RKg.ff
       | refine zkd ?_
       | refine zke ?_
       | refine zkf ?_
       | (refine RKg.split (fun h => ?_) (fun h => ?_) <;> (try rw [h]) <;> (replace h := zB h) <;> (try (exfalso; first | exact h | omega)))
       | apply RK.nil
       | apply V.sq
       | apply V.bl
       | apply V.sc
       | apply V.skip
       | apply V.label
       | apply V.ret
       | apply V.exit
       | apply SeqQ.normal
       | apply SeqQ.ret
       | apply SeqQ.exit
       | apply BlockQ.normal
       | apply BlockQ.ret
       | apply BlockQ.here
       | refine zbt ?_
       | apply LoopS.ret
       | apply LoopS.exit
       | apply LoopF.ret
       | apply LoopF.exit
       | apply V.regK
        | refine zva ?_
       | refine zvb ?_
       | refine zgc ?_
       | refine zvd ?_
       | refine zve ?_
       | (refine zvf (fun h => ?_) (fun h => ?_) <;> (replace h := zB h) <;> (try (exfalso; first | exact h | omega)))
        | (refine zfc Tryz.results6 ?_; (try dsimp only)))
      all_goals first
        | rfl
        | trace_state
end
end Go.Am
