
/- LineEnds: the end of each line has a place. -/
import Derived.Test.YtmcimfmibpfnhaaGreatRLinZ
import Derived.Test.YtmcimfmibpfnhaaGreatRLinG
set_option linter.all false
set_option linter.deprecated false
namespace Go.Am
variable {oc : Orc} [OrcI oc]
open Go.Proofs
set_option maxRecDepth 8000
set_option maxHeartbeats 4000000
theorem allL_bd (ls : List (List Ce)) (w : Int) (h : ls.length ≤ 10) (h40 : ∀ l ∈ ls, l.length ≤ 40) : (allL ls w).length ≤ 410 := by
  have : ∀ (ls : List (List Ce)), (∀ l ∈ ls, l.length ≤ 40) → (allL ls w).length ≤ ls.length * 41 := by
    intro ls
    induction ls with
    | nil => intro _; exact Nat.le_refl 0
    | cons l ls ih =>
      intro h
      have h1 := layL_le l w
      have h2 := h l List.mem_cons_self
      have h3 := ih fun m hm => h m (List.mem_cons_of_mem _ hm)
      rw [allL_cons, List.length_append, List.length_cons]; omega
  have := this ls h40
  omega
section
variable {A : AV} {es : List (List AV)} {ls : List (List Ce)}
theorem LineEnds_law (hbe : ∀ ys lo H, CallR (ELo oc) ys lo 22 [] H (.v (.bool true)) H ⟨0, 0, 0⟩) (hA : Sl 1 A es) (hB : LsB es ls) (hl : es.length < 2 ^ 63) (a b : Int) (ha : -9223372036854775808 ≤ a ∧ a ≤ 9223372036854775807) (hb : -9223372036854775808 ≤ b ∧ b ≤ 9223372036854775807) : WC (ELo oc) [] 0 14 [A, .v (.int .i64 a), .v (.int .i64 b)] .empty fun x _ => x = .v (.bool true) := by
  generalize hEm : AHeap.empty = H0
  have hLs := fun ys G => Lines_run (ys := ys) (lo := 0) (H := G) (.inl hA) hB hl
  obtain ⟨m1, m2, m3⟩ := mod_12 a
  obtain ⟨k1, k2, k3⟩ := mod_30 b
  have hw0 : 2 + (a.tmod 12 + 12).tmod 12 = 2 + a % 12 := by rw [m1]
  generalize hwd : 2 + a % 12 = w at *
  generalize hpd : b % 30 = past at *
  have hw1 : 2 ≤ w := by omega
  have hw2 : w ≤ 13 := by omega
  have hp1 : 0 ≤ past := by omega
  have hp2 : past ≤ 29 := by omega
  refine zvin Tryz.func14 Tryz.ntmps14 ?_
  repeat' (first
   | refine zka ?_
   | refine zkb ?_
   | (apply RKp.op; ((try simp (disch := (first | omega | exact zX | exact zO | fail)) only [hw0, k1, go_sem, Nat.reduceDiv, Nat.reduceMod, Nat.reduceAdd, Nat.reduceSub, Nat.reduceEqDiff, Nat.reduceLeDiff, Nat.reduceLT, Nat.reduceMul, reduceIte, Nat.reducePow, Int.reduceEq]); exact zL); rfl)
   | (apply RKp.call; (apply hbe <;> (exact zD)); rfl)
   | (apply RKp.callR; (apply hbe <;> (exact zD)); rfl; intro tr htr)
   | (apply RKp.callO; (apply hbe <;> (exact zD)); rfl; intro tr)
   | (apply RKp.callRE; ((first | apply hbe | apply hLs) <;> (exact zD)); (intro x; rfl))
   | (apply RKp.callE; (apply hbe <;> (exact zD)); (intro x; rfl))
   | refine zkc ?_
   | apply RKg.tt
   | apply RKg.ff
   | refine zkd ?_
   | refine zke ?_
   | refine zkf ?_
   | (refine RKg.split (fun h => ?_) (fun h => ?_) <;> (try rw [h]) <;> (replace h := zB h) <;> (try (exfalso; first | exact h | omega)))
   | apply RK.nil
   | apply V.sq
   | apply V.bl
   | apply V.sc
   | apply V.skip
   | apply V.label
   | apply V.ret
   | apply V.exit
   | apply SeqQ.normal
   | apply SeqQ.ret
   | apply SeqQ.exit
   | apply BlockQ.normal
   | apply BlockQ.ret
   | apply BlockQ.here
   | refine zbt ?_
   | apply LoopS.ret
   | apply LoopS.exit
   | apply LoopF.ret
   | apply LoopF.exit
   | apply V.regK
   | refine zvd ?_
   | refine zve ?_
   | (refine zvf (fun h => ?_) (fun h => ?_) <;> (replace h := zB h) <;> (try (exfalso; first | exact h | omega)))
    | (refine zfc Tryz.results14 ?_; (try dsimp only)))
  rintro x tr htr ⟨es', hx, hls⟩
  have hgl := fun l hl => (linesL_G (ls := ls) l hl).1
  have hg40 := fun l hl => (linesL_G (ls := ls) l hl).2
  have hl10 := linesL_len ls
  generalize linesL ls = L at *
  have hbd := allL_bd L w hl10 hg40
  have hX : ∀ G, SlH G 1 x es' := fun G => .inl hx
  have hXe : SlH H0 1 x es' := .inl hx
  have hPl := fun ys G line off past hp => Place_run (ys := ys) (lo := 0) (hX G) hls (by omega) (fun j hj => by
    have := hg40 (L.getD j []) (by rw [List.getD_eq_getElem?_getD, List.getElem?_eq_getElem hj]; exact List.getElem_mem hj)
    omega) w line off past (by omega) (by omega) hp
  have hLay := fun ys G i hi => Layout_run (ys := ys) (lo := 0) (H := G) (.inl (hls.sl i hi)) (hls.lt i hi) w
  repeat' (first
   | refine zka ?_
   | refine zkb ?_
   | (apply RKp.op; ((try simp (disch := (first | omega | exact zX | exact zO | fail)) only [hw0, k1, lenL 0 hXe hls, go_sem, Nat.reduceDiv, Nat.reduceMod, Nat.reduceAdd, Nat.reduceSub, Nat.reduceEqDiff, Nat.reduceLeDiff, Nat.reduceLT, Nat.reduceMul, reduceIte, Nat.reducePow, Int.reduceEq]); exact zL); rfl)
   | refine zkc ?_
   | apply RKg.tt
   | apply RKg.ff
   | refine zkd ?_
   | refine zke ?_
   | refine zkf ?_
   | (refine RKg.split (fun h => ?_) (fun h => ?_) <;> (try rw [h]) <;> (replace h := zB h) <;> (try (exfalso; first | exact h | omega)))
   | apply RK.nil
   | apply V.sq
   | apply V.bl
   | apply V.sc
   | apply V.skip
   | apply V.label
   | apply V.ret
   | apply V.exit
   | apply SeqQ.normal
   | apply SeqQ.ret
   | apply SeqQ.exit
   | apply BlockQ.normal
   | apply BlockQ.ret
   | apply BlockQ.here
   | refine zbt ?_
   | apply LoopS.ret
   | apply LoopS.exit
   | apply LoopF.ret
   | apply LoopF.exit
   | apply V.regK
   | refine zvd ?_
   | refine zve ?_
   | (refine zvf (fun h => ?_) (fun h => ?_) <;> (replace h := zB h) <;> (try (exfalso; first | exact h | omega)))
    | (refine zfc Tryz.results14 ?_; (try dsimp only)))
  apply V.lpS [9, 8, 6, 10, 11, 12, 27, 28, 29, 30, 31, 32, 33, 34, 35, 36, 37, 38, 39, 40, 41, 42, 43, 44, 45, 46, 47, 48, 49, 50, 51, 52, 53, 54, 55, 56, 57, 58, 59, 60, 61, 62, 63, 64, 65, 66, 67, 68, 69, 70, 71, 72, 73, 74, 75, 76, 77, 78, 79, 80, 81, 82, 83, 84, 85, 86, 87, 88, 89, 90, 91, 92, 93, 94, 95, 96, 97, 98, 99, 100, 101, 102, 103, 104, 105, 106, 107, 108, 109, 110, 111] (fun k xs H2 => ∃ (i : Nat) (g : _), xs = .v (.int .i64 i) :: .v (.int .i64 ((allL (L.take i) w).length : Nat)) :: g ∧ k = L.length - i ∧ i ≤ L.length ∧ Ext H0 H2) L.length
  focus (intro xs; simp only [putMany, set2, Nat.reduceAdd, Nat.reduceDiv, Nat.reduceMod, nth_zero, nth_succ, List.set_cons_zero, List.set_cons_succ]; rfl)
  focus (first | rfl | simp only [readMany, nth_zero, nth_succ, Nat.reduceDiv, Nat.reduceMod])
  · exact ⟨0, _, rfl, rfl, Nat.zero_le _, Ext.refl _⟩
  · rintro k xs H2 ⟨i, g, rfl, rfl, hi, hx2⟩
    have hX2 : SlH H2 1 x es' := .inl hx
    by_cases hlt : i < L.length
    · have hmem : L.getD i [] ∈ L := by rw [List.getD_eq_getElem?_getD, List.getElem?_eq_getElem hlt]; exact List.getElem_mem hlt
      obtain ⟨e1, e2, e3, e4⟩ := place_end w hw1 (by omega) L hgl i hlt past hp1
      obtain ⟨f1, _, _, _⟩ := place_end w hw1 (by omega) L hgl i hlt 0 (by omega)
      have hP0 := fun ys G => hPl ys G i (L.getD i []).length 0 (by omega)
      have hP1 := fun ys G => hPl ys G i (L.getD i []).length past (by omega)
      have hLy := fun ys G => hLay ys G i hlt
      have htk := allL_take (w := w) hlt
      have hle := allL_le L w (i + 1)
      have hlr : ∀ G, primL 0 G (builtinA (ELo oc) .len #[22] 3 [rwA (layL (L.getD i []) w)]) = some (.v (.int .i64 (layL (L.getD i []) w).length), G, rdTr (rwA (layL (L.getD i []) w))) := fun G => by
        have := len_SlH (ELo oc) 0 (H := G) 22 3 (.inl (rwA_Sl (layL (L.getD i []) w))) (by kernel_rfl)
        rw [rowsA_len] at this; exact this
      have lnl := fun G => len_cell 0 (H := G) (l := L.getD i []) (.inl (hls.sl i hlt))
      rw [htk, List.length_append] at e1 f1 hle
      have hRn : (allL (L.take (i + 1)) w).length = (allL (L.take i) w).length + (layL (L.getD i []) w).length := by rw [htk, List.length_append]
      generalize rwA (layL (L.getD i []) w) = RA at *
      generalize (layL (L.getD i []) w).length = n at *
      generalize hR0 : (allL (L.take i) w).length = R0 at *
      generalize placeL L w i (L.getD i []).length past = q at *
      generalize placeL L w i (L.getD i []).length 0 = p at *
      obtain ⟨q1, q2⟩ := q
      obtain ⟨p1, p2⟩ := p
      dsimp only at *
      have er : (R0 : Int) + n = ((R0 + n : Nat) : Int) := by omega
      repeat' (first
       | refine zka ?_
       | refine zkb ?_
       | (apply RKp.op; ((try simp (disch := (first | omega | exact zX | exact zO | fail)) only [lenL 0 hX2 hls, ixL 0 hX2 hls, ldL 0 hX2 hls, hlr, lnl, Int.toNat_natCast, er, go_sem, Nat.reduceDiv, Nat.reduceMod, Nat.reduceAdd, Nat.reduceSub, Nat.reduceEqDiff, Nat.reduceLeDiff, Nat.reduceLT, Nat.reduceMul, reduceIte, Nat.reducePow, Int.reduceEq]); exact zL); rfl)
       | (apply RKp.call; ((first | apply hLy | apply hP0 | apply hP1) <;> (exact zD)); rfl)
       | (apply RKp.callR; ((first | apply hLy | apply hP0 | apply hP1) <;> (exact zD)); rfl; intro tr htr)
       | (apply RKp.callO; ((first | apply hLy | apply hP0 | apply hP1) <;> (exact zD)); rfl; intro tr)
       | (apply RKp.callRE; ((first | apply hLy | apply hP0 | apply hP1) <;> (exact zD)); (intro x; rfl))
       | (apply RKp.callE; ((first | apply hLy | apply hP0 | apply hP1) <;> (exact zD)); (intro x; rfl))
       | refine zkc ?_
       | apply RKg.tt
       | apply RKg.ff
       | refine zkd ?_
       | refine zke ?_
       | refine zkf ?_
       | (refine RKg.split (fun h => ?_) (fun h => ?_) <;> (try rw [h]) <;> (replace h := zB h) <;> (try (exfalso; first | exact h | omega)))
       | apply RK.nil
       | apply V.sq
       | apply V.bl
       | apply V.sc
       | apply V.skip
       | apply V.label
       | apply V.ret
       | apply V.exit
       | apply SeqQ.normal
       | apply SeqQ.ret
       | apply SeqQ.exit
       | apply BlockQ.normal
       | apply BlockQ.ret
       | apply BlockQ.here
       | refine zbt ?_
       | apply LoopS.ret
       | apply LoopS.exit
       | apply LoopF.ret
       | apply LoopF.exit
       | apply V.regK
       | refine zvd ?_
       | refine zve ?_
       | (refine zvf (fun h => ?_) (fun h => ?_) <;> (replace h := zB h) <;> (try (exfalso; first | exact h | omega)))
        | (refine zfc Tryz.results14 ?_; (try dsimp only)))
      all_goals first
        | (exfalso; omega)
        | exact LoopS.again (L.length - (i + 1)) (by rfl) (by omega) ⟨i + 1, _, by rw [hRn]; rfl, rfl, by omega, by exact zX⟩
        | (exfalso; rw [if_pos (by assumption)] at e4; omega)
        | (exfalso
           rename_i h
           rw [if_neg (by omega)] at e4
           obtain rfl : q1 = p1 := by omega
           subst e4
           simp at h)
        | trace_state
    · have e : i = L.length := by omega
      subst e
      have hpz : placeL L w (L.length : Nat) 0 0 = (0, 0) := if_neg (fun z => by omega)
      repeat' (first
       | refine zka ?_
       | refine zkb ?_
       | (apply RKp.op; ((try simp (disch := (first | omega | exact zX | exact zO | fail)) only [lenL 0 hX2 hls, hpz, go_sem, Nat.reduceDiv, Nat.reduceMod, Nat.reduceAdd, Nat.reduceSub, Nat.reduceEqDiff, Nat.reduceLeDiff, Nat.reduceLT, Nat.reduceMul, reduceIte, Nat.reducePow, Int.reduceEq]); exact zL); rfl)
       | (apply RKp.callR; (apply hPl <;> (exact zD)); rfl; intro tr htr)
       | refine zkc ?_
       | apply RKg.tt
       | apply RKg.ff
       | refine zkd ?_
       | refine zke ?_
       | refine zkf ?_
       | (refine RKg.split (fun h => ?_) (fun h => ?_) <;> (try rw [h]) <;> (replace h := zB h) <;> (try (exfalso; first | exact h | omega)))
       | apply RK.nil
       | apply V.sq
       | apply V.bl
       | apply V.sc
       | apply V.skip
       | apply V.label
       | apply V.ret
       | apply V.exit
       | apply SeqQ.normal
       | apply SeqQ.ret
       | apply SeqQ.exit
       | apply BlockQ.normal
       | apply BlockQ.ret
       | apply BlockQ.here
       | refine zbt ?_
       | apply LoopS.ret
       | apply LoopS.exit
       | apply LoopF.ret
       | apply LoopF.exit
       | apply V.regK
       | refine zvd ?_
       | refine zve ?_
       | (refine zvf (fun h => ?_) (fun h => ?_) <;> (replace h := zB h) <;> (try (exfalso; first | exact h | omega)))
        | (refine zfc Tryz.results14 ?_; (try dsimp only)))
      all_goals first
        | rfl
        | (rw [hpz]; rfl)
        | trace_state
end
end Go.Am
