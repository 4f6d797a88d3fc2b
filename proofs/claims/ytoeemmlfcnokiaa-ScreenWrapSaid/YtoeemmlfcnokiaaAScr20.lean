
/- ScreenOut, ScreenWrap. -/
import Derived.Test.YtoeemmlfcnokiaaAScr6
import Derived.Test.YtoeemmlfcnokiaaAScr10
import Derived.Test.YtoeemmlfcnokiaaAScr12
set_option linter.all false
set_option linter.deprecated false
namespace Go.Am
open Go.Proofs
set_option maxRecDepth 8000
set_option maxHeartbeats 2000000
theorem md_9 (a : Int) : (a.tmod 9 + 9).tmod 9 = a % 9 ∧ -9 ≤ a.tmod 9 ∧ a.tmod 9 ≤ 9 := by
  rcases Int.le_total 0 a with h | h
  · rw [Int.tmod_eq_emod_of_nonneg h, Int.tmod_eq_emod_of_nonneg (by omega)]; omega
  · have e : a.tmod 9 = -((-a) % 9) := by rw [← Int.tmod_eq_emod_of_nonneg (by omega), Int.neg_tmod]; omega
    rw [e, Int.tmod_eq_emod_of_nonneg (by omega)]; omega
theorem md_20 (a : Int) : (a.tmod 20 + 20).tmod 20 = a % 20 ∧ -20 ≤ a.tmod 20 ∧ a.tmod 20 ≤ 20 := by
  rcases Int.le_total 0 a with h | h
  · rw [Int.tmod_eq_emod_of_nonneg h, Int.tmod_eq_emod_of_nonneg (by omega)]; omega
  · have e : a.tmod 20 = -((-a) % 20) := by rw [← Int.tmod_eq_emod_of_nonneg (by omega), Int.neg_tmod]; omega
    rw [e, Int.tmod_eq_emod_of_nonneg (by omega)]; omega
theorem md_40 (a : Int) : (a.tmod 40 + 40).tmod 40 = a % 40 ∧ -40 ≤ a.tmod 40 ∧ a.tmod 40 ≤ 40 := by
  rcases Int.le_total 0 a with h | h
  · rw [Int.tmod_eq_emod_of_nonneg h, Int.tmod_eq_emod_of_nonneg (by omega)]; omega
  · have e : a.tmod 40 = -((-a) % 40) := by rw [← Int.tmod_eq_emod_of_nonneg (by omega), Int.neg_tmod]; omega
    rw [e, Int.tmod_eq_emod_of_nonneg (by omega)]; omega
theorem md_60 (a : Int) : (a.tmod 60 + 60).tmod 60 = a % 60 ∧ -60 ≤ a.tmod 60 ∧ a.tmod 60 ≤ 60 := by
  rcases Int.le_total 0 a with h | h
  · rw [Int.tmod_eq_emod_of_nonneg h, Int.tmod_eq_emod_of_nonneg (by omega)]; omega
  · have e : a.tmod 60 = -((-a) % 60) := by rw [← Int.tmod_eq_emod_of_nonneg (by omega), Int.neg_tmod]; omega
    rw [e, Int.tmod_eq_emod_of_nonneg (by omega)]; omega
theorem dn_row {s : Sc} (hg : ScG s) (c : Int) : ((({ s with col := c } : Sc).dn).1.row = min (s.row + 1) (s.h - 1)) ∧ ((({ s with col := c } : Sc).dn).2.length : Int) = if s.row + 1 < s.h then 0 else 1 := by
  have := hg.rh
  unfold Sc.dn
  by_cases h : s.row + 1 < s.h
  · rw [if_pos h, if_pos h]; exact ⟨by show s.row + 1 = _; omega, rfl⟩
  · rw [if_neg h, if_neg h]; exact ⟨by show s.row = _; omega, rfl⟩
theorem ScreenOut_law (h n : Int) (hh : -9223372036854775808 ≤ h ∧ h ≤ 9223372036854775807) (hn : -9223372036854775808 ≤ n ∧ n ≤ 9223372036854775807) : WC EA [] 0 9 [.v (.int .i64 h), .v (.int .i64 n)] .empty fun x _ => x = .v (.bool true) := by
  obtain ⟨a1, a2, a3⟩ := md_9 h
  obtain ⟨b1, b2, b3⟩ := md_40 n
  have hNew := fun ys G w h => New_E (ys := ys) (lo := 0) (H := G) w h
  refine zvin Try.func9 Try.ntmps9 ?_
  repeat' (first
   | refine zka ?_
   | refine zkb ?_
   | (apply RKp.op; ((try simp (disch := (first | omega | exact zX | exact zO | fail)) only [a1, b1, go_sem, Nat.reduceDiv, Nat.reduceMod, Nat.reduceAdd, Nat.reduceSub, Nat.reduceEqDiff, Nat.reduceLeDiff, Nat.reduceLT, Nat.reduceMul, reduceIte, Nat.reducePow, Int.reduceEq]); exact zL); rfl)
   | (apply RKp.call; (apply begun_R <;> (exact zD)); rfl)
   | (apply RKp.callE; (apply hNew <;> (exact zD)); (intro x; rfl))
   | refine zkc ?_
   | apply RKg.tt
   | apply RKg.ff
   | refine zkd ?_
   | refine zke ?_
   | refine zkf ?_
   | (refine RKg.split (fun h => ?_) (fun h => ?_) <;> (try rw [h]) <;> (replace h := zB h) <;> (try (exfalso; first | exact h | omega)))
   | apply RK.nil
   | apply V.sq
   | apply V.bl
   | apply V.sc
   | apply V.skip
   | apply V.label
   | apply V.ret
   | apply V.exit
   | apply SeqQ.normal
   | apply SeqQ.ret
   | apply SeqQ.exit
   | apply BlockQ.normal
   | apply BlockQ.ret
   | apply BlockQ.here
   | refine zbt ?_
   | apply LoopS.ret
   | apply LoopS.exit
   | apply LoopF.ret
   | apply LoopF.exit
   | apply V.regK
   | refine zvd ?_
   | refine zve ?_
   | (refine zvf (fun h => ?_) (fun h => ?_) <;> (replace h := zB h) <;> (try (exfalso; first | exact h | omega)))
    | (refine zfc Try.results9 ?_; (try dsimp only)))
  rintro x H1 tr ⟨p, m0, rfl, hS0, c1, c2, hx1⟩
  have hg0 := ScG.new2 5 (1 + h % 9)
  have hh0 : (Sc.new (min (max 5 2) 300) (min (max (1 + h % 9) 1) 100)).h = 1 + h % 9 := by show min (max (1 + h % 9) 1) 100 = _; omega
  have hr0 : (Sc.new (min (max 5 2) 300) (min (max (1 + h % 9) 1) 100)).row = 0 := rfl
  generalize Sc.new _ _ = s0 at *
  have hN0 : 0 ≤ n % 40 := by omega
  generalize hN : n % 40 = N at *
  have hN1 : N < 40 := by omega
  generalize hM : 1 + h % 9 = M at *
  have hM1 : 1 ≤ M ∧ M ≤ 9 := by omega
  repeat' (first
   | refine zka ?_
   | refine zkb ?_
   | (apply RKp.op; ((try simp (disch := (first | omega | exact zX | exact zO | fail)) only [go_sem, Nat.reduceDiv, Nat.reduceMod, Nat.reduceAdd, Nat.reduceSub, Nat.reduceEqDiff, Nat.reduceLeDiff, Nat.reduceLT, Nat.reduceMul, reduceIte, Nat.reducePow, Int.reduceEq]); exact zL); rfl)
   | refine zkc ?_
   | apply RKg.tt
   | apply RKg.ff
   | refine zkd ?_
   | refine zke ?_
   | refine zkf ?_
   | (refine RKg.split (fun h => ?_) (fun h => ?_) <;> (try rw [h]) <;> (replace h := zB h) <;> (try (exfalso; first | exact h | omega)))
   | apply RK.nil
   | apply V.sq
   | apply V.bl
   | apply V.sc
   | apply V.skip
   | apply V.label
   | apply V.ret
   | apply V.exit
   | apply SeqQ.normal
   | apply SeqQ.ret
   | apply SeqQ.exit
   | apply BlockQ.normal
   | apply BlockQ.ret
   | apply BlockQ.here
   | refine zbt ?_
   | apply LoopS.ret
   | apply LoopS.exit
   | apply LoopF.ret
   | apply LoopF.exit
   | apply V.regK
   | refine zvd ?_
   | refine zve ?_
   | (refine zvf (fun h => ?_) (fun h => ?_) <;> (replace h := zB h) <;> (try (exfalso; first | exact h | omega)))
    | (refine zfc Try.results9 ?_; (try dsimp only)))
  apply V.lpS [8, 7, 23, 24, 25, 26, 27, 28, 29, 30, 31, 32, 33] (fun k xs H2 => ∃ (i : Nat) (cnt : Int) (g : _) (m' e' : Nat) (s : Sc), xs = .v (.int .i64 i) :: .v (.int .i64 cnt) :: g ∧ cnt = max 0 ((i : Int) - (M - 1)) ∧ k = N.toNat - i ∧ (i : Int) ≤ N ∧ SP 73 0 H2 p m' e' s ∧ ScG s ∧ s.h = M ∧ s.row = min (i : Int) (M - 1)) N.toNat
  focus (intro xs; simp only [putMany, set2, Nat.reduceAdd, Nat.reduceDiv, Nat.reduceMod, nth_zero, nth_succ, List.set_cons_zero, List.set_cons_succ]; rfl)
  focus (first | rfl | simp only [readMany, nth_zero, nth_succ, Nat.reduceDiv, Nat.reduceMod])
  · exact ⟨0, 0, _, m0, 0, s0, rfl, by omega, rfl, by omega, hS0, hg0, hh0, by rw [hr0]; omega⟩
  · rintro k xs H2 ⟨i, cnt, g, m', e', s, rfl, hcnt, rfl, hi, hS, hg, hsh, hsr⟩
    by_cases hlt : (i : Int) < N
    · have hDo := fun ys => Do_run (ys := ys) hS hg 2 10 (by omega) ⟨#[]⟩ (A := .v (.slice none 0 0)) (a := []) (.inl (.inr ⟨rfl, .inr rfl⟩)) (fun k ⟨_, _, _, hk⟩ => by cases hk) (by simp) (by simp)
      have he : s.ev 2 10 [] = ({ s with col := min s.col (s.w - 1) } : Sc).dn := rfl
      obtain ⟨g1, _, g2, g3⟩ := hg.ev 2 10 (by omega) (a := []) (by simp)
      obtain ⟨d1, d2⟩ := dn_row hg (min s.col (s.w - 1))
      rw [he] at g1 g2 g3
      simp only [he] at hDo
      generalize ({ s with col := min s.col (s.w - 1) } : Sc).dn = q at *
      obtain ⟨s1, out⟩ := q
      dsimp only at *
      repeat' (first
       | refine zka ?_
       | refine zkb ?_
       | (apply RKp.op; ((try simp (disch := (first | omega | exact zX | exact zO | fail)) only [go_sem, Nat.reduceDiv, Nat.reduceMod, Nat.reduceAdd, Nat.reduceSub, Nat.reduceEqDiff, Nat.reduceLeDiff, Nat.reduceLT, Nat.reduceMul, reduceIte, Nat.reducePow, Int.reduceEq]); exact zL); rfl)
       | (apply RKp.callE; (apply hDo <;> (exact zD)); (intro x; rfl))
       | refine zkc ?_
       | apply RKg.tt
       | apply RKg.ff
       | refine zkd ?_
       | refine zke ?_
       | refine zkf ?_
       | (refine RKg.split (fun h => ?_) (fun h => ?_) <;> (try rw [h]) <;> (replace h := zB h) <;> (try (exfalso; first | exact h | omega)))
       | apply RK.nil
       | apply V.sq
       | apply V.bl
       | apply V.sc
       | apply V.skip
       | apply V.label
       | apply V.ret
       | apply V.exit
       | apply SeqQ.normal
       | apply SeqQ.ret
       | apply SeqQ.exit
       | apply BlockQ.normal
       | apply BlockQ.ret
       | apply BlockQ.here
       | refine zbt ?_
       | apply LoopS.ret
       | apply LoopS.exit
       | apply LoopF.ret
       | apply LoopF.exit
       | apply V.regK
       | refine zvd ?_
       | refine zve ?_
       | (refine zvf (fun h => ?_) (fun h => ?_) <;> (replace h := zB h) <;> (try (exfalso; first | exact h | omega)))
        | (refine zfc Try.results9 ?_; (try dsimp only)))
      rintro x H3 tr3 ⟨m3, e3, hS3, hF3, hO3⟩
      have lnO := fun G (hx : Ext H3 G) => len_rwX 0 hO3.sl G hx
      have hol : (out.length : Int) = if s.row + 1 < s.h then 0 else 1 := d2
      have hob : (out.length : Int) ≤ 1 := by rw [hol]; split <;> omega
      have hsum : cnt + (out.length : Int) = max 0 (((i + 1 : Nat) : Int) - (M - 1)) := by
        rw [hol]; split <;> omega
      repeat' (first
       | refine zka ?_
       | refine zkb ?_
       | (apply RKp.op; ((try simp (disch := (first | omega | exact zX | exact zO | fail)) only [lnO, go_sem, Nat.reduceDiv, Nat.reduceMod, Nat.reduceAdd, Nat.reduceSub, Nat.reduceEqDiff, Nat.reduceLeDiff, Nat.reduceLT, Nat.reduceMul, reduceIte, Nat.reducePow, Int.reduceEq]); exact zL); rfl)
       | refine zkc ?_
       | apply RKg.tt
       | apply RKg.ff
       | refine zkd ?_
       | refine zke ?_
       | refine zkf ?_
       | (refine RKg.split (fun h => ?_) (fun h => ?_) <;> (try rw [h]) <;> (replace h := zB h) <;> (try (exfalso; first | exact h | omega)))
       | apply RK.nil
       | apply V.sq
       | apply V.bl
       | apply V.sc
       | apply V.skip
       | apply V.label
       | apply V.ret
       | apply V.exit
       | apply SeqQ.normal
       | apply SeqQ.ret
       | apply SeqQ.exit
       | apply BlockQ.normal
       | apply BlockQ.ret
       | apply BlockQ.here
       | refine zbt ?_
       | apply LoopS.ret
       | apply LoopS.exit
       | apply LoopF.ret
       | apply LoopF.exit
       | apply V.regK
       | refine zvd ?_
       | refine zve ?_
       | (refine zvf (fun h => ?_) (fun h => ?_) <;> (replace h := zB h) <;> (try (exfalso; first | exact h | omega)))
        | (refine zfc Try.results9 ?_; (try dsimp only)))
      exact LoopS.again (N.toNat - (i + 1)) (by rfl) (by omega) ⟨i + 1, _, _, m3, e3, s1, rfl, hsum, rfl, by omega, hS3, g1, by omega, by omega⟩
    · have hiN : (i : Int) = N := by omega
      have hcur := fun ys => Cursor_run (ys := ys) (lo := 0) hS
      rw [hsr, hiN] at hcur
      rw [hiN] at hcnt
      subst hcnt
      repeat' (first
       | refine zka ?_
       | refine zkb ?_
       | (apply RKp.op; ((try simp (disch := (first | omega | exact zX | exact zO | fail)) only [go_sem, Nat.reduceDiv, Nat.reduceMod, Nat.reduceAdd, Nat.reduceSub, Nat.reduceEqDiff, Nat.reduceLeDiff, Nat.reduceLT, Nat.reduceMul, reduceIte, Nat.reducePow, Int.reduceEq]); exact zL); rfl)
       | (apply RKp.callR; (apply hcur <;> (exact zD)); rfl; intro tr htr)
       | refine zkc ?_
       | apply RKg.tt
       | apply RKg.ff
       | refine zkd ?_
       | refine zke ?_
       | refine zkf ?_
       | (refine RKg.split (fun h => ?_) (fun h => ?_) <;> (try rw [h]) <;> (replace h := zB h) <;> (try (exfalso; first | exact h | omega)))
       | apply RK.nil
       | apply V.sq
       | apply V.bl
       | apply V.sc
       | apply V.skip
       | apply V.label
       | apply V.ret
       | apply V.exit
       | apply SeqQ.normal
       | apply SeqQ.ret
       | apply SeqQ.exit
       | apply BlockQ.normal
       | apply BlockQ.ret
       | apply BlockQ.here
       | refine zbt ?_
       | apply LoopS.ret
       | apply LoopS.exit
       | apply LoopF.ret
       | apply LoopF.exit
       | apply V.regK
       | refine zvd ?_
       | refine zve ?_
       | (refine zvf (fun h => ?_) (fun h => ?_) <;> (replace h := zB h) <;> (try (exfalso; first | exact h | omega)))
        | (refine zfc Try.results9 ?_; (try dsimp only)))
      all_goals first
        | (exfalso; simp at h; omega)
        | (simp; done)
        | rfl
        | trace_state
theorem ScreenOut_run (h : Int) (hh : (Lit.int .i64 h).wf = true) (n : Int) (hn : (Lit.int .i64 n).wf = true) : WC EA [] 0 9 [.v (.int .i64 h), .v (.int .i64 n)] .empty fun x _ => x = .v (.bool true) := ScreenOut_law h n (i64_wf hh) (i64_wf hn)
theorem ofC_abc (r : Int) (h : 97 ≤ r) (h2 : r ≤ 122) : ofC r 0 = [⟨r, 1, 0⟩] := by
  have e : widthI r = 1 := by
    unfold widthI
    have e1 : noneB r = false := decide_eq_false (by omega)
    have e2 : wideB r = false := decide_eq_false (by omega)
    rw [e1, e2]; rfl
  unfold ofC
  rw [e]
  rfl

/-- So many signs of one cell. -/
structure Wr (w : Int) (k : Nat) (s : Sc) : Prop where
  g : ScG s
  sw : s.w = w
  sh : s.h = 40
  a0 : s.attr = 0
  eq : (k : Int) = s.row * w + s.col
  z : k = 0 → s.row = 0 ∧ s.col = 0
  p : 0 < k → 1 ≤ s.col
  wr : ∀ i, i < s.rows.length → (s.rows.getD i noRw).2 = decide ((i : Int) < s.row)
theorem Wr.row {w : Int} {k : Nat} {s : Sc} (h : Wr w k s) (w2 : 2 ≤ w) (hk : k < 60) : s.row ≤ 30 := by
  have h0 := h.g.r0; have c0 := h.g.c0; have e := h.eq
  have : s.row * 2 ≤ s.row * w := Int.mul_le_mul_of_nonneg_left w2 h0
  omega
theorem Wr.step {w : Int} {k : Nat} {s : Sc} (h : Wr w k s) (w2 : 2 ≤ w) (hk : k < 59) (r : Int) (h97 : 97 ≤ r) (h122 : r ≤ 122) : Wr w (k + 1) (s.ev 1 r []).1 := by
  have hrow := h.row w2 (by omega)
  have hc := ofC_abc r h97 h122
  have hg := h.g; have sw := h.sw; have sh := h.sh
  have c0 := hg.c0; have cw := hg.cw; have r0 := hg.r0; have hlen := hg.len
  obtain ⟨g1, _, g2, g3⟩ := hg.ev 1 r (by omega) (a := []) (by simp)
  have he : s.ev 1 r [] = s.pr r := rfl
  rw [he] at g1 g2 g3 ⊢
  have hR : R32 [(⟨r, 1, 0⟩ : Ce)] := by rw [← hc]; exact R32_ofC r 0 (by omega)
  by_cases hw : s.col + 1 ≤ s.w
  · have e : s.pr r = (s.signs [⟨r, 1, 0⟩], []) := by
      unfold Sc.pr
      rw [h.a0, hc, if_neg (by simp), if_pos (by simpa using hw)]
    rw [e] at g1 g2 g3 ⊢
    refine ⟨g1, g2.trans sw, g3.trans sh, h.a0, ?_, by omega, fun _ => ?_, fun i hi => ?_⟩
    · show ((k + 1 : Nat) : Int) = s.row * w + (s.col + 1)
      have := h.eq; omega
    · show 1 ≤ s.col + 1; omega
    · have hlr : (s.rows.set s.row.toNat (rowSet s.cur s.col [⟨r, 1, 0⟩])).length = s.rows.length := List.length_set
      have hi' : i < s.rows.length := by rw [← hlr]; exact hi
      show ((s.rows.set s.row.toNat (rowSet s.cur s.col [⟨r, 1, 0⟩])).getD i noRw).2 = decide ((i : Int) < s.row)
      rw [getD_rset _ _ _ _ hi']
      split
      · rename_i e2; subst e2
        exact h.wr s.row.toNat hg.lt
      · exact h.wr i hi'
  · have hcw : s.col = w := by omega
    have e : s.pr r = (s.wrapped.1.signs [⟨r, 1, 0⟩], s.wrapped.2) := by
      unfold Sc.pr
      rw [h.a0, hc, if_neg (by simp), if_neg (by simpa using hw)]
    have e2 : s.wrapped = ({ s.put (s.cur.1, true) with row := s.row + 1, col := 0 }, []) := by
      unfold Sc.wrapped
      rw [if_neg (by omega)]
      dsimp only
      have : (s.put (s.cur.1, true)).dn = ({ s.put (s.cur.1, true) with row := s.row + 1 }, []) := by
        unfold Sc.dn
        rw [if_pos (by show s.row + 1 < s.h; omega)]; rfl
      rw [this]
    rw [e, e2] at g1 g2 g3 ⊢
    refine ⟨g1, g2.trans sw, g3.trans sh, h.a0, ?_, by omega, fun _ => ?_, fun i hi => ?_⟩
    · show ((k + 1 : Nat) : Int) = (s.row + 1) * w + (0 + 1)
      have := h.eq
      rw [Int.add_mul]; omega
    · show (1 : Int) ≤ 0 + 1; omega
    · have hlr : ((s.rows.set s.row.toNat (s.cur.1, true)).set (s.row + 1).toNat (rowSet ({ s.put (s.cur.1, true) with row := s.row + 1, col := 0 } : Sc).cur 0 [⟨r, 1, 0⟩])).length = s.rows.length := by rw [List.length_set, List.length_set]
      have hi' : i < s.rows.length := by rw [← hlr]; exact hi
      show (((s.rows.set s.row.toNat (s.cur.1, true)).set (s.row + 1).toNat (rowSet ({ s.put (s.cur.1, true) with row := s.row + 1, col := 0 } : Sc).cur 0 [⟨r, 1, 0⟩])).getD i noRw).2 = decide ((i : Int) < s.row + 1)
      rw [getD_rset _ _ _ _ (by rw [List.length_set]; exact hi')]
      split
      · rename_i e3
        show ((s.rows.set s.row.toNat (s.cur.1, true)).getD (s.row + 1).toNat noRw).2 = _
        rw [getD_rset _ _ _ _ (by omega), if_neg (by omega), h.wr _ (by omega)]
        rw [decide_eq_decide]; omega
      · rw [getD_rset _ _ _ _ hi']
        split
        · rename_i e4
          rw [eq_comm, decide_eq_true_eq]; omega
        · rw [h.wr i hi', decide_eq_decide]; omega
theorem Wr.new (w : Int) (h2 : 2 ≤ w) (h3 : w ≤ 21) : Wr w 0 (Sc.new (min (max w 2) 300) (min (max 40 1) 100)) := by
  have e : min (max w 2) 300 = w := by omega
  rw [e]
  refine ⟨ScG.new h2 (by omega) (by omega) (by omega), rfl, rfl, rfl, by show (0 : Int) = 0 * w + 0; omega, fun _ => ⟨rfl, rfl⟩, fun h => by omega, fun i hi => ?_⟩
  have hl : (Sc.new w (min (max 40 1) 100)).rows.length = (min (max 40 1) 100 : Int).toNat := List.length_replicate
  rw [hl] at hi
  have key : ∀ (q : Nat) (r : Rw), i < q → (List.replicate q r).getD i noRw = r := fun q r h => by simp [List.getD_eq_getElem?_getD, h]
  have : (Sc.new w (min (max 40 1) 100)).rows.getD i noRw = (blanks w.toNat, false) := key _ _ hi
  rw [this, eq_comm]
  exact decide_eq_false (by show ¬ ((i : Int) < 0); omega)
theorem Wr.full {w : Int} {k : Nat} {s : Sc} (h : Wr w k s) (w2 : 2 ≤ w) (hk : 0 < k) : ((k : Int) - 1).tdiv w = s.row := by
  have c1 := h.p hk; have cw := h.g.cw; have e := h.eq; have sw := h.sw; have r0 := h.g.r0
  rw [Int.tdiv_eq_ediv_of_nonneg (by omega)]
  have : (k : Int) - 1 = (s.col - 1) + s.row * w := by omega
  rw [this, Int.add_mul_ediv_right _ _ (by omega), Int.ediv_eq_zero_of_lt (by omega) (by omega)]
  omega
theorem ScreenWrap_law (w n : Int) (hh : -9223372036854775808 ≤ w ∧ w ≤ 9223372036854775807) (hn : -9223372036854775808 ≤ n ∧ n ≤ 9223372036854775807) : WC EA [] 0 8 [.v (.int .i64 w), .v (.int .i64 n)] .empty fun x _ => x = .v (.bool true) := by
  obtain ⟨a1, a2, a3⟩ := md_20 w
  obtain ⟨b1, b2, b3⟩ := md_60 n
  have hNew := fun ys G w h => New_E (ys := ys) (lo := 0) (H := G) w h
  refine zvin Try.func8 Try.ntmps8 ?_
  repeat' (first
   | refine zka ?_
   | refine zkb ?_
   | (apply RKp.op; ((try simp (disch := (first | omega | exact zX | exact zO | fail)) only [a1, b1, go_sem, Nat.reduceDiv, Nat.reduceMod, Nat.reduceAdd, Nat.reduceSub, Nat.reduceEqDiff, Nat.reduceLeDiff, Nat.reduceLT, Nat.reduceMul, reduceIte, Nat.reducePow, Int.reduceEq]); exact zL); rfl)
   | (apply RKp.call; (apply begun_R <;> (exact zD)); rfl)
   | (apply RKp.callE; (apply hNew <;> (exact zD)); (intro x; rfl))
   | refine zkc ?_
   | apply RKg.tt
   | apply RKg.ff
   | refine zkd ?_
   | refine zke ?_
   | refine zkf ?_
   | (refine RKg.split (fun h => ?_) (fun h => ?_) <;> (try rw [h]) <;> (replace h := zB h) <;> (try (exfalso; first | exact h | omega)))
   | apply RK.nil
   | apply V.sq
   | apply V.bl
   | apply V.sc
   | apply V.skip
   | apply V.label
   | apply V.ret
   | apply V.exit
   | apply SeqQ.normal
   | apply SeqQ.ret
   | apply SeqQ.exit
   | apply BlockQ.normal
   | apply BlockQ.ret
   | apply BlockQ.here
   | refine zbt ?_
   | apply LoopS.ret
   | apply LoopS.exit
   | apply LoopF.ret
   | apply LoopF.exit
   | apply V.regK
    | refine zva ?_
   | refine zvb ?_
   | refine zgc ?_
   | refine zvd ?_
   | refine zve ?_
   | (refine zvf (fun h => ?_) (fun h => ?_) <;> (replace h := zB h) <;> (try (exfalso; first | exact h | omega)))
    | (refine zfc Try.results8 ?_; (try dsimp only)))
  rintro x H1 tr ⟨p, m0, rfl, hS0, c1, c2, hx1⟩
  have hw0 := Wr.new (2 + w % 20) (by omega) (by omega)
  generalize Sc.new _ _ = s0 at *
  have hN0 : 0 ≤ n % 60 := by omega
  generalize hN : n % 60 = N at *
  have hN1 : N < 60 := by omega
  generalize hM : 2 + w % 20 = M at *
  have hM1 : 2 ≤ M ∧ M ≤ 21 := by omega
  repeat' (first
   | refine zka ?_
   | refine zkb ?_
   | (apply RKp.op; ((try simp (disch := (first | omega | exact zX | exact zO | fail)) only [go_sem, Nat.reduceDiv, Nat.reduceMod, Nat.reduceAdd, Nat.reduceSub, Nat.reduceEqDiff, Nat.reduceLeDiff, Nat.reduceLT, Nat.reduceMul, reduceIte, Nat.reducePow, Int.reduceEq]); exact zL); rfl)
   | refine zkc ?_
   | apply RKg.tt
   | apply RKg.ff
   | refine zkd ?_
   | refine zke ?_
   | refine zkf ?_
   | (refine RKg.split (fun h => ?_) (fun h => ?_) <;> (try rw [h]) <;> (replace h := zB h) <;> (try (exfalso; first | exact h | omega)))
   | apply RK.nil
   | apply V.sq
   | apply V.bl
   | apply V.sc
   | apply V.skip
   | apply V.label
   | apply V.ret
   | apply V.exit
   | apply SeqQ.normal
   | apply SeqQ.ret
   | apply SeqQ.exit
   | apply BlockQ.normal
   | apply BlockQ.ret
   | apply BlockQ.here
   | refine zbt ?_
   | apply LoopS.ret
   | apply LoopS.exit
   | apply LoopF.ret
   | apply LoopF.exit
   | apply V.regK
    | refine zva ?_
   | refine zvb ?_
   | refine zgc ?_
   | refine zvd ?_
   | refine zve ?_
   | (refine zvf (fun h => ?_) (fun h => ?_) <;> (replace h := zB h) <;> (try (exfalso; first | exact h | omega)))
    | (refine zfc Try.results8 ?_; (try dsimp only)))
  apply V.lpS [7, 26, 27, 28, 29, 30, 31, 32, 33, 34, 35, 36, 37] (fun k xs H2 => ∃ (i : Nat) (g : _) (m' e' : Nat) (s : Sc), xs = .v (.int .i64 i) :: g ∧ k = N.toNat - i ∧ (i : Int) ≤ N ∧ SP 73 0 H2 p m' e' s ∧ Wr M i s) N.toNat
  focus (intro xs; simp only [putMany, set2, Nat.reduceAdd, Nat.reduceDiv, Nat.reduceMod, nth_zero, nth_succ, List.set_cons_zero, List.set_cons_succ]; rfl)
  focus (first | rfl | simp only [readMany, nth_zero, nth_succ, Nat.reduceDiv, Nat.reduceMod])
  · exact ⟨0, _, m0, 0, s0, rfl, rfl, by omega, hS0, hw0⟩
  · rintro k xs H2 ⟨i, g, m', e', s, rfl, rfl, hi, hS, hw⟩
    by_cases hlt : (i : Int) < N
    · have hmod : (i : Int).tmod 26 = (i : Int) % 26 := Int.tmod_eq_emod_of_nonneg (by omega)
      have hDo := fun ys => Do_run (ys := ys) hS hw.g 1 (97 + (i : Int) % 26) (by omega) ⟨#[]⟩ (A := .v (.slice none 0 0)) (a := []) (.inl (.inr ⟨rfl, .inr rfl⟩)) (fun k ⟨_, _, _, hk⟩ => by cases hk) (by simp) (by simp)
      have hst := hw.step hM1.1 (by omega) (97 + (i : Int) % 26) (by omega) (by omega)
      generalize s.ev 1 (97 + (i : Int) % 26) [] = q at *
      repeat' (first
       | refine zka ?_
       | refine zkb ?_
       | (apply RKp.op; ((try simp (disch := (first | omega | exact zX | exact zO | fail)) only [hmod, go_sem, Nat.reduceDiv, Nat.reduceMod, Nat.reduceAdd, Nat.reduceSub, Nat.reduceEqDiff, Nat.reduceLeDiff, Nat.reduceLT, Nat.reduceMul, reduceIte, Nat.reducePow, Int.reduceEq]); exact zL); rfl)
       | (apply RKp.callE; (apply hDo <;> (exact zD)); (intro x; rfl))
       | refine zkc ?_
       | apply RKg.tt
       | apply RKg.ff
       | refine zkd ?_
       | refine zke ?_
       | refine zkf ?_
       | (refine RKg.split (fun h => ?_) (fun h => ?_) <;> (try rw [h]) <;> (replace h := zB h) <;> (try (exfalso; first | exact h | omega)))
       | apply RK.nil
       | apply V.sq
       | apply V.bl
       | apply V.sc
       | apply V.skip
       | apply V.label
       | apply V.ret
       | apply V.exit
       | apply SeqQ.normal
       | apply SeqQ.ret
       | apply SeqQ.exit
       | apply BlockQ.normal
       | apply BlockQ.ret
       | apply BlockQ.here
       | refine zbt ?_
       | apply LoopS.ret
       | apply LoopS.exit
       | apply LoopF.ret
       | apply LoopF.exit
       | apply V.regK
        | refine zva ?_
       | refine zvb ?_
       | refine zgc ?_
       | refine zvd ?_
       | refine zve ?_
       | (refine zvf (fun h => ?_) (fun h => ?_) <;> (replace h := zB h) <;> (try (exfalso; first | exact h | omega)))
        | (refine zfc Try.results8 ?_; (try dsimp only)))
      rintro x H3 tr3 ⟨m3, e3, hS3, hF3, hO3⟩
      repeat' (first
       | refine zka ?_
       | refine zkb ?_
       | (apply RKp.op; ((try simp (disch := (first | omega | exact zX | exact zO | fail)) only [go_sem, Nat.reduceDiv, Nat.reduceMod, Nat.reduceAdd, Nat.reduceSub, Nat.reduceEqDiff, Nat.reduceLeDiff, Nat.reduceLT, Nat.reduceMul, reduceIte, Nat.reducePow, Int.reduceEq]); exact zL); rfl)
       | refine zkc ?_
       | apply RKg.tt
       | apply RKg.ff
       | refine zkd ?_
       | refine zke ?_
       | refine zkf ?_
       | (refine RKg.split (fun h => ?_) (fun h => ?_) <;> (try rw [h]) <;> (replace h := zB h) <;> (try (exfalso; first | exact h | omega)))
       | apply RK.nil
       | apply V.sq
       | apply V.bl
       | apply V.sc
       | apply V.skip
       | apply V.label
       | apply V.ret
       | apply V.exit
       | apply SeqQ.normal
       | apply SeqQ.ret
       | apply SeqQ.exit
       | apply BlockQ.normal
       | apply BlockQ.ret
       | apply BlockQ.here
       | refine zbt ?_
       | apply LoopS.ret
       | apply LoopS.exit
       | apply LoopF.ret
       | apply LoopF.exit
       | apply V.regK
        | refine zva ?_
       | refine zvb ?_
       | refine zgc ?_
       | refine zvd ?_
       | refine zve ?_
       | (refine zvf (fun h => ?_) (fun h => ?_) <;> (replace h := zB h) <;> (try (exfalso; first | exact h | omega)))
        | (refine zfc Try.results8 ?_; (try dsimp only)))
      exact LoopS.again (N.toNat - (i + 1)) (by rfl) (by omega) ⟨i + 1, _, m3, e3, _, rfl, rfl, by omega, hS3, hst⟩
    · have hiN : (i : Int) = N := by omega
      have hrows := fun ys => Rows_run (ys := ys) (lo := 0) hS hw.g
      have hcur := fun ys G (hx : Ext H2 G) => Cursor_run (ys := ys) (lo := 0) (hS.ext hx)
      have hmul : s.row * M = N - s.col := by have := hw.eq; omega
      have hcol : N - s.row * M = s.col := by omega
      have r0 := hw.g.r0; have c0 := hw.g.c0; have cw := hw.g.cw; have rh := hw.g.rh; have hh2 := hw.g.h2; have hln := hw.g.len; have hswi := hw.sw
      have hrow := hw.row hM1.1 (by omega)
      have hA : ∀ G, SlH G 2 (.sl 2 (rowsA s.rows)) (rowsA s.rows) := fun G => .inl (.inl rfl)
      have lnO := fun G => len_rwX 0 (hA G) G (Ext.refl G)
      by_cases hN2 : 0 < N
      · have hfull : (N - 1).tdiv M = s.row := by rw [← hiN]; exact hw.full hM1.1 (by omega)
        repeat' (first
         | refine zka ?_
         | refine zkb ?_
         | (apply RKp.op; ((try simp (disch := (first | omega | exact zX | exact zO | fail)) only [hfull, lnO, go_sem, Nat.reduceDiv, Nat.reduceMod, Nat.reduceAdd, Nat.reduceSub, Nat.reduceEqDiff, Nat.reduceLeDiff, Nat.reduceLT, Nat.reduceMul, reduceIte, Nat.reducePow, Int.reduceEq]); exact zL); rfl)
         | (apply RKp.callR; (apply hrows <;> (exact zD)); rfl; intro tr htr)
         | refine zkc ?_
         | apply RKg.tt
         | apply RKg.ff
         | refine zkd ?_
         | refine zke ?_
         | refine zkf ?_
         | (refine RKg.split (fun h => ?_) (fun h => ?_) <;> (try rw [h]) <;> (replace h := zB h) <;> (try (exfalso; first | exact h | omega)))
         | apply RK.nil
         | apply V.sq
         | apply V.bl
         | apply V.sc
         | apply V.skip
         | apply V.label
         | apply V.ret
         | apply V.exit
         | apply SeqQ.normal
         | apply SeqQ.ret
         | apply SeqQ.exit
         | apply BlockQ.normal
         | apply BlockQ.ret
         | apply BlockQ.here
         | refine zbt ?_
         | apply LoopS.ret
         | apply LoopS.exit
         | apply LoopF.ret
         | apply LoopF.exit
         | apply V.regK
          | refine zva ?_
         | refine zvb ?_
         | refine zgc ?_
         | refine zvd ?_
         | refine zve ?_
         | (refine zvf (fun h => ?_) (fun h => ?_) <;> (replace h := zB h) <;> (try (exfalso; first | exact h | omega)))
          | (refine zfc Try.results8 ?_; (try dsimp only)))
        ·
          apply V.lpF [10, 4, 46, 47, 48, 49, 50, 51, 52, 53, 54, 55, 56, 57, 58, 59, 60] (fun k xs => ∃ (j : Nat) (g : _), xs = .v (.int .i64 j) :: g ∧ k = s.rows.length - j ∧ j ≤ s.rows.length) s.rows.length
          focus (intro xs; simp only [putMany, set2, Nat.reduceAdd, Nat.reduceDiv, Nat.reduceMod, nth_zero, nth_succ, List.set_cons_zero, List.set_cons_succ]; rfl)
          focus (first | rfl | simp only [readMany, nth_zero, nth_succ, Nat.reduceDiv, Nat.reduceMod])
          · exact ⟨0, _, rfl, rfl, Nat.zero_le _⟩
          · rintro k xs ⟨j, g2, rfl, rfl, hj⟩
            by_cases hjl : j < s.rows.length
            · have hwr := hw.wr j hjl
              have ixO := fun G => ix_rwX 0 (hA G) G (Ext.refl G) .i64 (j : Int) (by omega) (by omega)
              have faO := fun G => fieldAddr_SlH EA 0 (hA G) 45 1 j (off := 1) (by kernel_rfl)
              have lfO : ∀ G, primL 0 G (loadA EA 4 (fxA (.sl 2 (rowsA s.rows)) (rowsA s.rows) j 1)) = some (.v (.bool (decide ((j : Int) < s.row))), G, rdTr (.sl 2 (rowsA s.rows))) := fun G => by
                rw [loadF_SlH EA 0 (hA G) 4 j 1 (by rw [rowsA_len]; exact hjl) (by omega), nth_rowsA _ _ hjl, hwr]; rfl
              repeat' (first
               | refine zka ?_
               | refine zkb ?_
               | (apply RKp.op; ((try simp (disch := (first | omega | exact zX | exact zO | fail)) only [lnO, ixO, faO, lfO, rowsA_len, Int.toNat_natCast, bne_self_eq_false, go_sem, Nat.reduceDiv, Nat.reduceMod, Nat.reduceAdd, Nat.reduceSub, Nat.reduceEqDiff, Nat.reduceLeDiff, Nat.reduceLT, Nat.reduceMul, reduceIte, Nat.reducePow, Int.reduceEq]); exact zL); rfl)
               | refine zkc ?_
               | apply RKg.tt
               | apply RKg.ff
               | refine zkd ?_
               | refine zke ?_
               | refine zkf ?_
               | (refine RKg.split (fun h => ?_) (fun h => ?_) <;> (try rw [h]) <;> (replace h := zB h) <;> (try (exfalso; first | exact h | omega)))
               | apply RK.nil
               | apply V.sq
               | apply V.bl
               | apply V.sc
               | apply V.skip
               | apply V.label
               | apply V.ret
               | apply V.exit
               | apply SeqQ.normal
               | apply SeqQ.ret
               | apply SeqQ.exit
               | apply BlockQ.normal
               | apply BlockQ.ret
               | apply BlockQ.here
               | refine zbt ?_
               | apply LoopS.ret
               | apply LoopS.exit
               | apply LoopF.ret
               | apply LoopF.exit
               | apply V.regK
                | refine zva ?_
               | refine zvb ?_
               | refine zgc ?_
               | refine zvd ?_
               | refine zve ?_
               | (refine zvf (fun h => ?_) (fun h => ?_) <;> (replace h := zB h) <;> (try (exfalso; first | exact h | omega)))
                | (refine zfc Try.results8 ?_; (try dsimp only)))
              all_goals first
                | exact LoopF.again (s.rows.length - (j + 1)) (by rfl) (by omega) ⟨j + 1, _, rfl, rfl, by omega⟩
                | (exfalso; simp at h; done)
                | trace_state
            · repeat' (first
               | refine zka ?_
               | refine zkb ?_
               | (apply RKp.op; ((try simp (disch := (first | omega | exact zX | exact zO | fail)) only [lnO, rowsA_len, hcol, go_sem, Nat.reduceDiv, Nat.reduceMod, Nat.reduceAdd, Nat.reduceSub, Nat.reduceEqDiff, Nat.reduceLeDiff, Nat.reduceLT, Nat.reduceMul, reduceIte, Nat.reducePow, Int.reduceEq]); exact zL); rfl)
               | (apply RKp.callR; (apply hcur <;> (exact zD)); rfl; intro tr htr)
               | refine zkc ?_
               | apply RKg.tt
               | apply RKg.ff
               | refine zkd ?_
               | refine zke ?_
               | refine zkf ?_
               | (refine RKg.split (fun h => ?_) (fun h => ?_) <;> (try rw [h]) <;> (replace h := zB h) <;> (try (exfalso; first | exact h | omega)))
               | apply RK.nil
               | apply V.sq
               | apply V.bl
               | apply V.sc
               | apply V.skip
               | apply V.label
               | apply V.ret
               | apply V.exit
               | apply SeqQ.normal
               | apply SeqQ.ret
               | apply SeqQ.exit
               | apply BlockQ.normal
               | apply BlockQ.ret
               | apply BlockQ.here
               | refine zbt ?_
               | apply LoopS.ret
               | apply LoopS.exit
               | apply LoopF.ret
               | apply LoopF.exit
               | apply V.regK
                | refine zva ?_
               | refine zvb ?_
               | refine zgc ?_
               | refine zvd ?_
               | refine zve ?_
               | (refine zvf (fun h => ?_) (fun h => ?_) <;> (replace h := zB h) <;> (try (exfalso; first | exact h | omega)))
                | (refine zfc Try.results8 ?_; (try dsimp only)))
              all_goals first
                | (simp; done)
                | trace_state
      · have hz := hw.z (by omega)
        repeat' (first
         | refine zka ?_
         | refine zkb ?_
         | (apply RKp.op; ((try simp (disch := (first | omega | exact zX | exact zO | fail)) only [lnO, go_sem, Nat.reduceDiv, Nat.reduceMod, Nat.reduceAdd, Nat.reduceSub, Nat.reduceEqDiff, Nat.reduceLeDiff, Nat.reduceLT, Nat.reduceMul, reduceIte, Nat.reducePow, Int.reduceEq]); exact zL); rfl)
         | (apply RKp.callR; (apply hrows <;> (exact zD)); rfl; intro tr htr)
         | refine zkc ?_
         | apply RKg.tt
         | apply RKg.ff
         | refine zkd ?_
         | refine zke ?_
         | refine zkf ?_
         | (refine RKg.split (fun h => ?_) (fun h => ?_) <;> (try rw [h]) <;> (replace h := zB h) <;> (try (exfalso; first | exact h | omega)))
         | apply RK.nil
         | apply V.sq
         | apply V.bl
         | apply V.sc
         | apply V.skip
         | apply V.label
         | apply V.ret
         | apply V.exit
         | apply SeqQ.normal
         | apply SeqQ.ret
         | apply SeqQ.exit
         | apply BlockQ.normal
         | apply BlockQ.ret
         | apply BlockQ.here
         | refine zbt ?_
         | apply LoopS.ret
         | apply LoopS.exit
         | apply LoopF.ret
         | apply LoopF.exit
         | apply V.regK
          | refine zva ?_
         | refine zvb ?_
         | refine zgc ?_
         | refine zvd ?_
         | refine zve ?_
         | (refine zvf (fun h => ?_) (fun h => ?_) <;> (replace h := zB h) <;> (try (exfalso; first | exact h | omega)))
          | (refine zfc Try.results8 ?_; (try dsimp only)))
        have hcol0 : s.col = 0 := hz.2
        have hNz : N = 0 := by omega
        ·
          apply V.lpF [10, 4, 46, 47, 48, 49, 50, 51, 52, 53, 54, 55, 56, 57, 58, 59, 60] (fun k xs => ∃ (j : Nat) (g : _), xs = .v (.int .i64 j) :: g ∧ k = s.rows.length - j ∧ j ≤ s.rows.length) s.rows.length
          focus (intro xs; simp only [putMany, set2, Nat.reduceAdd, Nat.reduceDiv, Nat.reduceMod, nth_zero, nth_succ, List.set_cons_zero, List.set_cons_succ]; rfl)
          focus (first | rfl | simp only [readMany, nth_zero, nth_succ, Nat.reduceDiv, Nat.reduceMod])
          · exact ⟨0, _, rfl, rfl, Nat.zero_le _⟩
          · rintro k xs ⟨j, g2, rfl, rfl, hj⟩
            by_cases hjl : j < s.rows.length
            · have hwr : (s.rows.getD j noRw).2 = false := by rw [hw.wr j hjl]; exact decide_eq_false (by omega)
              have ixO := fun G => ix_rwX 0 (hA G) G (Ext.refl G) .i64 (j : Int) (by omega) (by omega)
              have faO := fun G => fieldAddr_SlH EA 0 (hA G) 45 1 j (off := 1) (by kernel_rfl)
              have lfO : ∀ G, primL 0 G (loadA EA 4 (fxA (.sl 2 (rowsA s.rows)) (rowsA s.rows) j 1)) = some (.v (.bool false), G, rdTr (.sl 2 (rowsA s.rows))) := fun G => by
                rw [loadF_SlH EA 0 (hA G) 4 j 1 (by rw [rowsA_len]; exact hjl) (by omega), nth_rowsA _ _ hjl, hwr]; rfl
              repeat' (first
               | refine zka ?_
               | refine zkb ?_
               | (apply RKp.op; ((try simp (disch := (first | omega | exact zX | exact zO | fail)) only [lnO, ixO, faO, lfO, rowsA_len, Int.toNat_natCast, bne_self_eq_false, go_sem, Nat.reduceDiv, Nat.reduceMod, Nat.reduceAdd, Nat.reduceSub, Nat.reduceEqDiff, Nat.reduceLeDiff, Nat.reduceLT, Nat.reduceMul, reduceIte, Nat.reducePow, Int.reduceEq]); exact zL); rfl)
               | refine zkc ?_
               | apply RKg.tt
               | apply RKg.ff
               | refine zkd ?_
               | refine zke ?_
               | refine zkf ?_
               | (refine RKg.split (fun h => ?_) (fun h => ?_) <;> (try rw [h]) <;> (replace h := zB h) <;> (try (exfalso; first | exact h | omega)))
               | apply RK.nil
               | apply V.sq
               | apply V.bl
               | apply V.sc
               | apply V.skip
               | apply V.label
               | apply V.ret
               | apply V.exit
               | apply SeqQ.normal
               | apply SeqQ.ret
               | apply SeqQ.exit
               | apply BlockQ.normal
               | apply BlockQ.ret
               | apply BlockQ.here
               | refine zbt ?_
               | apply LoopS.ret
               | apply LoopS.exit
               | apply LoopF.ret
               | apply LoopF.exit
               | apply V.regK
                | refine zva ?_
               | refine zvb ?_
               | refine zgc ?_
               | refine zvd ?_
               | refine zve ?_
               | (refine zvf (fun h => ?_) (fun h => ?_) <;> (replace h := zB h) <;> (try (exfalso; first | exact h | omega)))
                | (refine zfc Try.results8 ?_; (try dsimp only)))
              all_goals first
                | exact LoopF.again (s.rows.length - (j + 1)) (by rfl) (by omega) ⟨j + 1, _, rfl, rfl, by omega⟩
                | (exfalso; simp at h; done)
                | trace_state
            · repeat' (first
               | refine zka ?_
               | refine zkb ?_
               | (apply RKp.op; ((try simp (disch := (first | omega | exact zX | exact zO | fail)) only [lnO, rowsA_len, hz.1, hcol0, go_sem, Nat.reduceDiv, Nat.reduceMod, Nat.reduceAdd, Nat.reduceSub, Nat.reduceEqDiff, Nat.reduceLeDiff, Nat.reduceLT, Nat.reduceMul, reduceIte, Nat.reducePow, Int.reduceEq]); exact zL); rfl)
               | (apply RKp.callR; (apply hcur <;> (exact zD)); rfl; intro tr htr)
               | refine zkc ?_
               | apply RKg.tt
               | apply RKg.ff
               | refine zkd ?_
               | refine zke ?_
               | refine zkf ?_
               | (refine RKg.split (fun h => ?_) (fun h => ?_) <;> (try rw [h]) <;> (replace h := zB h) <;> (try (exfalso; first | exact h | omega)))
               | apply RK.nil
               | apply V.sq
               | apply V.bl
               | apply V.sc
               | apply V.skip
               | apply V.label
               | apply V.ret
               | apply V.exit
               | apply SeqQ.normal
               | apply SeqQ.ret
               | apply SeqQ.exit
               | apply BlockQ.normal
               | apply BlockQ.ret
               | apply BlockQ.here
               | refine zbt ?_
               | apply LoopS.ret
               | apply LoopS.exit
               | apply LoopF.ret
               | apply LoopF.exit
               | apply V.regK
                | refine zva ?_
               | refine zvb ?_
               | refine zgc ?_
               | refine zvd ?_
               | refine zve ?_
               | (refine zvf (fun h => ?_) (fun h => ?_) <;> (replace h := zB h) <;> (try (exfalso; first | exact h | omega)))
                | (refine zfc Try.results8 ?_; (try dsimp only)))
              all_goals first
                | (have e : N - 0 * M = 0 := by omega
                   rw [e]; rfl)
                | (simp; done)
                | trace_state
theorem ScreenWrap_run (w : Int) (hh : (Lit.int .i64 w).wf = true) (n : Int) (hn : (Lit.int .i64 n).wf = true) : WC EA [] 0 8 [.v (.int .i64 w), .v (.int .i64 n)] .empty fun x _ => x = .v (.bool true) := ScreenWrap_law w n (i64_wf hh) (i64_wf hn)
end Go.Am
