
/- ReflowBack: over any widths and back. -/
import Derived.Test.YtmcimfmibpfnhaaGreatRLnT
import Derived.Test.YtmcimfmibpfnhaaGreatRLnJ
import Derived.Test.YtmcimfmibpfnhaaGreatRLnE
import Derived.Test.YtmcimfmibpfnhaaGreatRLnF
set_option linter.all false
set_option linter.deprecated false
namespace Go.Am
variable {oc : Orc} [OrcI oc]
open Go.Proofs
set_option maxRecDepth 100000
set_option maxHeartbeats 8000000
theorem mod_25 (a : Int) : (a.tmod 25 + 25).tmod 25 = a % 25 ∧ -25 ≤ a.tmod 25 ∧ a.tmod 25 ≤ 25 := by
  have h1 : a.tmod 25 = if 0 ≤ a then a % 25 else -((-a) % 25) := by
    split
    · exact Int.tmod_eq_emod_of_nonneg (by omega)
    · rename_i h
      have := Int.neg_tmod (-a) 25
      rw [Int.neg_neg] at this
      rw [this, Int.tmod_eq_emod_of_nonneg (by omega)]
  have h2 : 0 ≤ a.tmod 25 + 25 := by rw [h1]; split <;> omega
  rw [Int.tmod_eq_emod_of_nonneg h2, h1]
  split <;> omega
def intZ (l : List Int) : List (List AV) := l.map fun z => [.v (.int .i64 z)]
theorem intZ_len (l : List Int) : (intZ l).length = l.length := List.length_map _
theorem nth_intZ (l : List Int) (i : Nat) (h : i < l.length) : nth [] (intZ l) i = [.v (.int .i64 (l.getD i 0))] := nth_map _ l i 0 h
theorem wd_intsE {d : Nat} {es : List (List AV)} (h : ∀ c ∈ es, Wd Tryz.prog (d + 1) 3 c) : ∃ l : List Int, es = intZ l ∧ ∀ z ∈ l, -9223372036854775808 ≤ z ∧ z ≤ 9223372036854775807 := by
  induction es with
  | nil => exact ⟨[], rfl, fun z hz => by cases hz⟩
  | cons c r ih =>
    have hc := h c List.mem_cons_self
    simp only [Wd, Tryz.underlying3] at hc
    obtain ⟨z, rfl, hz⟩ := hc
    obtain ⟨l, rfl, hl⟩ := ih fun c hc => h c (List.mem_cons_of_mem _ hc)
    exact ⟨z :: l, rfl, fun y hy => by
      rcases List.mem_cons.1 hy with rfl | hy
      · exact i64_wf hz
      · exact hl y hy⟩
theorem wd_intsS {d : Nat} {u : List AV} (h : Wd Tryz.prog (d + 2) 59 u) : ∃ (L : AV) (l : List Int), u = [L] ∧ Sl 1 L (intZ l) ∧ l.length < 2 ^ 63 ∧ ∀ z ∈ l, -9223372036854775808 ≤ z ∧ z ≤ 9223372036854775807 := by
  unfold Wd at h
  rw [Tryz.underlying59] at h
  obtain ⟨x, es, rfl, hs, hlen, he⟩ := h
  have hc3 : Tryz.prog.cellsOf 3 = 1 := by kernel_rfl
  rw [hc3] at hs
  obtain ⟨l, rfl, hl⟩ := wd_intsE he
  exact ⟨x, l, rfl, hs, by rw [intZ_len] at hlen; unfold maxLen at hlen; omega, hl⟩
theorem wd_possE {d : Nat} {es : List (List AV)} (h : ∀ c ∈ es, Wd Tryz.prog (d + 2) 25 c) : ∃ l : List (Int × Int), es = posE l := by
  induction es with
  | nil => exact ⟨[], rfl⟩
  | cons c r ih =>
    obtain ⟨x, y, rfl⟩ := wd_pos (h c List.mem_cons_self)
    obtain ⟨l, rfl⟩ := ih fun c hc => h c (List.mem_cons_of_mem _ hc)
    exact ⟨(x, y) :: l, rfl⟩
theorem wd_possS {d : Nat} {u : List AV} (h : Wd Tryz.prog (d + 3) 54 u) : ∃ (L : AV) (l : List (Int × Int)), u = [L] ∧ Sl 2 L (posE l) ∧ l.length < 2 ^ 63 := by
  unfold Wd at h
  rw [Tryz.underlying54] at h
  obtain ⟨x, es, rfl, hs, hlen, he⟩ := h
  have hc3 : Tryz.prog.cellsOf 25 = 2 := by kernel_rfl
  rw [hc3] at hs
  obtain ⟨l, rfl⟩ := wd_possE he
  exact ⟨x, l, rfl, hs, by rw [posE_len] at hlen; unfold maxLen at hlen; omega⟩
theorem joinL_sz {es : List (List AV)} {rows : List Rw} (hr : RsP es rows) (h14 : rows.length ≤ 14) : (joinL rows).length ≤ 14 ∧ ∀ l ∈ joinL rows, l.length ≤ 4200 ∧ R32 l := by
  refine ⟨Nat.le_trans (joinG_le rows []) h14, fun l hl => ?_⟩
  have := joinG_bd rows (fun r hr2 => (hr.mem r hr2).1) [] (R32_mem.2 fun c hc => by cases hc) l hl
  rw [List.length_nil] at this
  exact ⟨by omega, this.2⟩
section
variable {A B : AV} {es : List (List AV)} {a : List Rw} {ws : List Int}
theorem ReflowBack_law (hbe : ∀ ys lo H, CallR (ELo oc) ys lo 22 [] H (.v (.bool true)) H ⟨0, 0, 0⟩) (hA : Sl 2 A es) (hl : es.length < 2 ^ 63) (hE : RsB es a) (hB : Sl 1 B (intZ ws)) (hwl : ws.length < 2 ^ 63) (hwr : ∀ z ∈ ws, -9223372036854775808 ≤ z ∧ z ≤ 9223372036854775807) : WC (ELo oc) [] 0 8 [A, B] .empty fun x _ => x = .v (.bool true) := by
  generalize hEm : AHeap.empty = H0
  have hRa := fun ys G => Rows_run (ys := ys) (lo := 0) (H := G) (.inl hA) hE hl
  have lnW : ∀ G, primL 0 G (builtinA (ELo oc) .len #[59] 3 [B]) = some (.v (.int .i64 ws.length), G, ⟨0, 0, 0⟩) := fun G => by
    rw [len_SlH (ELo oc) 0 59 3 (.inl hB) (by kernel_rfl), rdTr_Sl hB, intZ_len]
  have ixW : ∀ G (z : Int), 0 ≤ z → z < ws.length → primL 0 G (indexAddrA (ELo oc) 59 B (.v (.int .i64 z))) = some (ixA B (intZ ws) z.toNat, G, ⟨0, 0, 0⟩) := fun G z z0 z1 => by
    rw [ix_SlH (ELo oc) 0 59 .i64 z (.inl hB) (by kernel_rfl) z0 (by rw [intZ_len]; exact z1), rdTr_Sl hB]
  have ldW : ∀ G j, j < ws.length → primL 0 G (loadA (ELo oc) 3 (ixA B (intZ ws) j)) = some (.v (.int .i64 (ws.getD j 0)), G, ⟨0, 0, 0⟩) := fun G j hj => by
    rw [load_SlH (ELo oc) 0 3 j (.inl hB) (by rw [intZ_len]; exact hj), nth_intZ _ _ hj, rdTr_Sl hB]; rfl
  refine zvin Tryz.func8 Tryz.ntmps8 ?_
  repeat' (first
   | refine zka ?_
   | refine zkb ?_
   | (apply RKp.op; ((try simp (disch := (first | omega | exact zX | exact zO | fail)) only [go_sem, Nat.reduceDiv, Nat.reduceMod, Nat.reduceAdd, Nat.reduceSub, Nat.reduceEqDiff, Nat.reduceLeDiff, Nat.reduceLT, Nat.reduceMul, reduceIte, Nat.reducePow, Int.reduceEq]); exact zL); rfl)
   | (apply RKp.call; (apply hbe <;> (exact zD)); rfl)
   | (apply RKp.callR; (apply hbe <;> (exact zD)); rfl; intro tr htr)
   | (apply RKp.callO; (apply hbe <;> (exact zD)); rfl; intro tr)
   | (apply RKp.callRE; (apply hbe <;> (exact zD)); (intro x; rfl))
   | (apply RKp.callE; (apply hbe <;> (exact zD)); (intro x; rfl))
   | (apply RKp.callNE; (apply hRa <;> (exact zD)); (intro x; rfl))
   | refine zkc ?_
   | apply RKg.tt
   | apply RKg.ff
   | refine zkd ?_
   | refine zke ?_
   | refine zkf ?_
   | (refine RKg.split (fun h => ?_) (fun h => ?_) <;> (try rw [h]) <;> (replace h := zB h) <;> (try (exfalso; first | exact h | omega)))
   | apply RK.nil
   | apply V.sq
   | apply V.bl
   | apply V.sc
   | apply V.skip
   | apply V.label
   | apply V.ret
   | apply V.exit
   | apply SeqQ.normal
   | apply SeqQ.ret
   | apply SeqQ.exit
   | apply BlockQ.normal
   | apply BlockQ.ret
   | apply BlockQ.here
   | refine zbt ?_
   | apply LoopS.ret
   | apply LoopS.exit
   | apply LoopF.ret
   | apply LoopF.exit
   | apply V.regK
   | refine zvd ?_
   | refine zve ?_
   | (refine zvf (fun h => ?_) (fun h => ?_) <;> (replace h := zB h) <;> (try (exfalso; first | exact h | omega)))
    | (refine zfc Tryz.results8 ?_; (try dsimp only)))
  rintro x H1 tr htr ⟨es1, ho1, hr1, hx1, -⟩
  have hn1 := hx1.next
  have hla := rowsT_len a
  generalize rowsT a = ra at *
  have hX : SlH H1 2 x es1 := ho1.slh
  obtain ⟨hj1, hj2⟩ := joinL_sz hr1 hla
  have hJr := fun ys => refJoin_run (ys := ys) (lo := 0) hX hr1 (by omega)
  repeat' (first
   | refine zka ?_
   | refine zkb ?_
   | (apply RKp.op; ((try simp (disch := (first | omega | exact zX | exact zO | fail)) only [go_sem, Nat.reduceDiv, Nat.reduceMod, Nat.reduceAdd, Nat.reduceSub, Nat.reduceEqDiff, Nat.reduceLeDiff, Nat.reduceLT, Nat.reduceMul, reduceIte, Nat.reducePow, Int.reduceEq]); exact zL); rfl)
   | (apply RKp.callRE; (apply hJr <;> (exact zD)); (intro x; rfl))
   | refine zkc ?_
   | apply RKg.tt
   | apply RKg.ff
   | refine zkd ?_
   | refine zke ?_
   | refine zkf ?_
   | (refine RKg.split (fun h => ?_) (fun h => ?_) <;> (try rw [h]) <;> (replace h := zB h) <;> (try (exfalso; first | exact h | omega)))
   | apply RK.nil
   | apply V.sq
   | apply V.bl
   | apply V.sc
   | apply V.skip
   | apply V.label
   | apply V.ret
   | apply V.exit
   | apply SeqQ.normal
   | apply SeqQ.ret
   | apply SeqQ.exit
   | apply BlockQ.normal
   | apply BlockQ.ret
   | apply BlockQ.here
   | refine zbt ?_
   | apply LoopS.ret
   | apply LoopS.exit
   | apply LoopF.ret
   | apply LoopF.exit
   | apply V.regK
   | refine zvd ?_
   | refine zve ?_
   | (refine zvf (fun h => ?_) (fun h => ?_) <;> (replace h := zB h) <;> (try (exfalso; first | exact h | omega)))
    | (refine zfc Tryz.results8 ?_; (try dsimp only)))
  rintro u tr3 htr3 ⟨ls5, hu, hl5⟩
  repeat' (first
   | refine zka ?_
   | refine zkb ?_
   | (apply RKp.op; ((try simp (disch := (first | omega | exact zX | exact zO | fail)) only [go_sem, Nat.reduceDiv, Nat.reduceMod, Nat.reduceAdd, Nat.reduceSub, Nat.reduceEqDiff, Nat.reduceLeDiff, Nat.reduceLT, Nat.reduceMul, reduceIte, Nat.reducePow, Int.reduceEq]); exact zL); rfl)
   | refine zkc ?_
   | apply RKg.tt
   | apply RKg.ff
   | refine zkd ?_
   | refine zke ?_
   | refine zkf ?_
   | (refine RKg.split (fun h => ?_) (fun h => ?_) <;> (try rw [h]) <;> (replace h := zB h) <;> (try (exfalso; first | exact h | omega)))
   | apply RK.nil
   | apply V.sq
   | apply V.bl
   | apply V.sc
   | apply V.skip
   | apply V.label
   | apply V.ret
   | apply V.exit
   | apply SeqQ.normal
   | apply SeqQ.ret
   | apply SeqQ.exit
   | apply BlockQ.normal
   | apply BlockQ.ret
   | apply BlockQ.here
   | refine zbt ?_
   | apply LoopS.ret
   | apply LoopS.exit
   | apply LoopF.ret
   | apply LoopF.exit
   | apply V.regK
   | refine zvd ?_
   | refine zve ?_
   | (refine zvf (fun h => ?_) (fun h => ?_) <;> (replace h := zB h) <;> (try (exfalso; first | exact h | omega)))
    | (refine zfc Tryz.results8 ?_; (try dsimp only)))
  generalize hW : joinL ra = was at *
  apply V.lpS [7, 0, 4, 8, 9, 10, 11, 12, 20, 21, 22, 23, 24, 25, 26, 27, 28, 29, 30, 31, 32, 33, 34, 35, 36, 37, 38, 39, 40, 41, 42, 43, 44, 45, 46, 47, 48, 49, 50, 51, 52, 53, 54, 55, 56, 57, 58, 59, 60, 61] (fun k xs H2 => ∃ (i : Nat) (X : AV) (g : _) (eX : List (List AV)) (rX : List Rw), xs = .v (.int .i64 i) :: X :: g ∧ k = ws.length - i ∧ i ≤ ws.length ∧ Ext H1 H2 ∧ SlH H2 2 X eX ∧ RsP eX rX ∧ joinL rX = was ∧ rX.length < 2 ^ 20) ws.length
  focus (intro xs; simp only [putMany, set2, Nat.reduceAdd, Nat.reduceDiv, Nat.reduceMod, nth_zero, nth_succ, List.set_cons_zero, List.set_cons_succ]; rfl)
  focus (first | rfl | simp only [readMany, nth_zero, nth_succ, Nat.reduceDiv, Nat.reduceMod])
  · exact ⟨0, _, _, es1, ra, rfl, rfl, Nat.zero_le _, Ext.refl _, hX, hr1, hW, by omega⟩
  · rintro k xs H2 ⟨i, X, g, eX, rX, rfl, rfl, hi, hx2, hX2, hrX, hjX, hlX⟩
    by_cases hlt : i < ws.length ∧ i < 6
    · obtain ⟨hlt, h6⟩ := hlt
      have hz := hwr _ (getD_memL (d := (0 : Int)) hlt)
      generalize hzz : ws.getD i 0 = z at *
      obtain ⟨m1, m2, m3⟩ := mod_25 z
      have hw0 : 2 + (z.tmod 25 + 25).tmod 25 = 2 + z % 25 := by rw [m1]
      generalize hwd : 2 + z % 25 = w at *
      have hw1 : 2 ≤ w := by omega
      have hw2 : w ≤ 26 := by omega
      have h32 : ∀ l ∈ was, R32 l := fun l hl => (hj2 l hl).2
      have hr2 := RsP.allL w h32
      have hsz := allL_bd2 was w 4200 (fun l hl => (hj2 l hl).1)
      have hsz2 : was.length * 4201 ≤ 14 * 4201 := Nat.mul_le_mul_right _ hj1
      have hjj : joinL (allL was w) = was := by
        have := join_join w hw1 (by omega) rX
        rw [hjX] at this; exact this
      have hNil : ∀ G, SlH G 2 (.v (.slice none 0 0)) (posE []) := fun G => .inl (.inr ⟨rfl, .inr rfl⟩)
      have hR1 := fun ys => reRows_run (ys := ys) (lo := 0) hX2 hrX hlX (hNil _) (by simp) w (by omega) (by rw [hjX]; omega) (fun l hl => by rw [hjX] at hl; have := (hj2 l hl).1; omega)
      have hR2 := fun ys G => reRows_run (ys := ys) (lo := 0) (H := G) (.inl (rwA_Sl (allL was w))) hr2 (by omega) (hNil _) (by simp) w (by omega) (by rw [hjj]; omega) (fun l hl => by rw [hjj] at hl; have := (hj2 l hl).1; omega)
      have hEqR := fun ys G => EqRs_run (ys := ys) (lo := 0) (H := G) (.inl (rwA_Sl (allL was w))) hr2 (.inl (rwA_Sl (allL was w))) hr2 (by omega) (by omega)
      have hJ := fun ys G => Join_run (ys := ys) (lo := 0) (H := G) (.inl (rwA_Sl (allL was w))) hr2 (by omega)
      rw [hjX] at hR1
      rw [hjj] at hR2 hJ
      simp only [List.map_nil, ite_self, decide_eq_true (rfl : allL was w = allL was w)] at hR1 hR2 hEqR
      repeat' (first
       | refine zka ?_
       | refine zkb ?_
       | (apply RKp.op; ((try simp (disch := (first | omega | exact zX | exact zO | fail)) only [lnW, ixW, ldW, hzz, hw0, Int.toNat_natCast, go_sem, Nat.reduceDiv, Nat.reduceMod, Nat.reduceAdd, Nat.reduceSub, Nat.reduceEqDiff, Nat.reduceLeDiff, Nat.reduceLT, Nat.reduceMul, reduceIte, Nat.reducePow, Int.reduceEq]); exact zL); rfl)
       | (apply RKp.callR; ((first | apply hR1 | apply hR2 | apply hEqR) <;> (exact zD)); rfl; intro tr htr)
       | (apply RKp.callNE; (apply hJ <;> (exact zD)); (intro x; rfl))
       | refine zkc ?_
       | apply RKg.tt
       | apply RKg.ff
       | refine zkd ?_
       | refine zke ?_
       | refine zkf ?_
       | (refine RKg.split (fun h => ?_) (fun h => ?_) <;> (try rw [h]) <;> (replace h := zB h) <;> (try (exfalso; first | exact h | omega)))
       | apply RK.nil
       | apply V.sq
       | apply V.bl
       | apply V.sc
       | apply V.skip
       | apply V.label
       | apply V.ret
       | apply V.exit
       | apply SeqQ.normal
       | apply SeqQ.ret
       | apply SeqQ.exit
       | apply BlockQ.normal
       | apply BlockQ.ret
       | apply BlockQ.here
       | refine zbt ?_
       | apply LoopS.ret
       | apply LoopS.exit
       | apply LoopF.ret
       | apply LoopF.exit
       | apply V.regK
       | refine zvd ?_
       | refine zve ?_
       | (refine zvf (fun h => ?_) (fun h => ?_) <;> (replace h := zB h) <;> (try (exfalso; first | exact h | omega)))
        | (refine zfc Tryz.results8 ?_; (try dsimp only)))
      all_goals first
        | (exfalso; omega)
        | skip
      rintro v H6 tr6 htr6 ⟨ls6, ho6, hl6, hx6, -⟩
      have hEq := fun ys => eq_run (ys := ys) (lo := 0) ho6.slh hl6 (.inl hu) hl5 (by omega) (by omega)
      simp only [decide_eq_true (rfl : was = was)] at hEq
      repeat' (first
       | refine zka ?_
       | refine zkb ?_
       | (apply RKp.op; ((try simp (disch := (first | omega | exact zX | exact zO | fail)) only [go_sem, Nat.reduceDiv, Nat.reduceMod, Nat.reduceAdd, Nat.reduceSub, Nat.reduceEqDiff, Nat.reduceLeDiff, Nat.reduceLT, Nat.reduceMul, reduceIte, Nat.reducePow, Int.reduceEq]); exact zL); rfl)
       | (apply RKp.callR; (apply hEq <;> (exact zD)); rfl; intro tr htr)
       | refine zkc ?_
       | apply RKg.tt
       | apply RKg.ff
       | refine zkd ?_
       | refine zke ?_
       | refine zkf ?_
       | (refine RKg.split (fun h => ?_) (fun h => ?_) <;> (try rw [h]) <;> (replace h := zB h) <;> (try (exfalso; first | exact h | omega)))
       | apply RK.nil
       | apply V.sq
       | apply V.bl
       | apply V.sc
       | apply V.skip
       | apply V.label
       | apply V.ret
       | apply V.exit
       | apply SeqQ.normal
       | apply SeqQ.ret
       | apply SeqQ.exit
       | apply BlockQ.normal
       | apply BlockQ.ret
       | apply BlockQ.here
       | refine zbt ?_
       | apply LoopS.ret
       | apply LoopS.exit
       | apply LoopF.ret
       | apply LoopF.exit
       | apply V.regK
       | refine zvd ?_
       | refine zve ?_
       | (refine zvf (fun h => ?_) (fun h => ?_) <;> (replace h := zB h) <;> (try (exfalso; first | exact h | omega)))
        | (refine zfc Tryz.results8 ?_; (try dsimp only)))
      all_goals first
        | (exfalso; omega)
        | exact LoopS.again (ws.length - (i + 1)) (by rfl) (by omega) ⟨i + 1, rwA (allL was w), _, rowsA (allL was w), allL was w, rfl, rfl, by omega, hx2.trans hx6, .inl (rwA_Sl _), hr2, hjj, by omega⟩
        | trace_state
    · repeat' (first
       | refine zka ?_
       | refine zkb ?_
       | (apply RKp.op; ((try simp (disch := (first | omega | exact zX | exact zO | fail)) only [lnW, go_sem, Nat.reduceDiv, Nat.reduceMod, Nat.reduceAdd, Nat.reduceSub, Nat.reduceEqDiff, Nat.reduceLeDiff, Nat.reduceLT, Nat.reduceMul, reduceIte, Nat.reducePow, Int.reduceEq]); exact zL); rfl)
       | refine zkc ?_
       | apply RKg.tt
       | apply RKg.ff
       | refine zkd ?_
       | refine zke ?_
       | refine zkf ?_
       | (refine RKg.split (fun h => ?_) (fun h => ?_) <;> (try rw [h]) <;> (replace h := zB h) <;> (try (exfalso; first | exact h | omega)))
       | apply RK.nil
       | apply V.sq
       | apply V.bl
       | apply V.sc
       | apply V.skip
       | apply V.label
       | apply V.ret
       | apply V.exit
       | apply SeqQ.normal
       | apply SeqQ.ret
       | apply SeqQ.exit
       | apply BlockQ.normal
       | apply BlockQ.ret
       | apply BlockQ.here
       | refine zbt ?_
       | apply LoopS.ret
       | apply LoopS.exit
       | apply LoopF.ret
       | apply LoopF.exit
       | apply V.regK
       | refine zvd ?_
       | refine zve ?_
       | (refine zvf (fun h => ?_) (fun h => ?_) <;> (replace h := zB h) <;> (try (exfalso; first | exact h | omega)))
        | (refine zfc Tryz.results8 ?_; (try dsimp only)))
      all_goals first
        | (exfalso; omega)
        | rfl
        | trace_state
end
theorem ReflowBack_run (v : List AV) (hv : Wd Tryz.prog 6 22 v) (u : List AV) (hu : Wd Tryz.prog 6 59 u) : WC EF [] 0 8 [v.getD 0 .dead, u.getD 0 .dead] .empty fun x _ => x = .v (.bool true) := by
  obtain ⟨A, es, a, rfl, hA, hlen, hE⟩ := wd_rowsS (d := 1) hv
  obtain ⟨B, ws, rfl, hB, hwl, hwr⟩ := wd_intsS (d := 4) hu
  exact ReflowBack_law (fun ys lo H => begun_F) hA hlen hE hB hwl hwr
end Go.Am
