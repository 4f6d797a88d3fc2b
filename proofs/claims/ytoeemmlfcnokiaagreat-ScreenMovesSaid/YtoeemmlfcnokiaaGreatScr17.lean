/- ScreenMoves: moves of the cursor write nothing, and do not go out. -/
import Derived.Test.YtoeemmlfcnokiaaGreatScr16
set_option linter.all false
set_option linter.deprecated false
namespace Go.Am
open Go.Proofs
set_option maxRecDepth 8000
set_option maxHeartbeats 4000000
theorem mod_20 (a : Int) : (a.tmod 20 + 20).tmod 20 = a % 20 ∧ -20 ≤ a.tmod 20 ∧ a.tmod 20 ≤ 20 := by
  rcases Int.le_total 0 a with h | h
  · rw [Int.tmod_eq_emod_of_nonneg h, Int.tmod_eq_emod_of_nonneg (by omega)]; omega
  · have e : a.tmod 20 = -((-a) % 20) := by rw [← Int.tmod_eq_emod_of_nonneg (by omega), Int.neg_tmod]; omega
    rw [e, Int.tmod_eq_emod_of_nonneg (by omega)]; omega
theorem csi_rows (s : Sc) (r : Int) (a : List Int) (h1 : r ≠ 74) (h2 : r ≠ 75) : (s.csi r a).rows = s.rows := by
  unfold Sc.csi Sc.mov
  rw [if_neg h1, if_neg h2]
  (repeat' split) <;> rfl
def movs : List Int := [65, 66, 67, 68, 72, 109, 122, 72]
theorem movs_ok : ∀ q, q < 8 → movs.getD q 0 ≠ 74 ∧ movs.getD q 0 ≠ 75 ∧ -2147483648 ≤ movs.getD q 0 ∧ movs.getD q 0 ≤ 2147483647 := by decide
section
variable {L : AV} {ms : List Int}
theorem ScreenMoves_law (str : ByteArray) (hs : str.size ≤ maxLen) (hL : Sl 1 L (ints ms)) (hlen : ms.length < 2 ^ 63) (hms : ∀ x ∈ ms, -9223372036854775808 ≤ x ∧ x ≤ 9223372036854775807) : WC EZ [] 0 9 [.v (.string str), L] .empty fun x _ => x = .v (.bool true) := by
  have hz := ext_lt (s := str) 100
  obtain ⟨A, l, z, hall, hA, hll, hl⟩ := All_call (str.extract 0 (min str.size 100)) (by omega)
  have hNew := fun ys G w h => New_E (ys := ys) (lo := 0) (H := G) w h
  have hsh := fun ys G => Short_run (ys := ys) (lo := 0) (H := G) str 100
  generalize str.extract 0 (min str.size 100) = st at *
  refine zvin Tryz.func9 Tryz.ntmps9 ?_
  repeat' (first
   | refine zka ?_
   | refine zkb ?_
   | (apply RKp.op; ((try simp (disch := (first | omega | exact zX | exact zO | fail)) only [go_sem, Nat.reduceDiv, Nat.reduceMod, Nat.reduceAdd, Nat.reduceSub, Nat.reduceEqDiff, Nat.reduceLeDiff, Nat.reduceLT, Nat.reduceMul, reduceIte, Nat.reducePow, Int.reduceEq]); exact zL); rfl)
   | (apply RKp.call; (apply begun_R <;> (exact zD)); rfl)
   | (apply RKp.callE; (apply hNew <;> (exact zD)); (intro x; rfl))
   | refine zkc ?_
   | apply RKg.tt
   | apply RKg.ff
   | refine zkd ?_
   | refine zke ?_
   | refine zkf ?_
   | (refine RKg.split (fun h => ?_) (fun h => ?_) <;> (try rw [h]) <;> (replace h := zB h) <;> (try (exfalso; first | exact h | omega)))
   | apply RK.nil
   | apply V.sq
   | apply V.bl
   | apply V.sc
   | apply V.skip
   | apply V.label
   | apply V.ret
   | apply V.exit
   | apply SeqQ.normal
   | apply SeqQ.ret
   | apply SeqQ.exit
   | apply BlockQ.normal
   | apply BlockQ.ret
   | apply BlockQ.here
   | refine zbt ?_
   | apply LoopS.ret
   | apply LoopS.exit
   | apply LoopF.ret
   | apply LoopF.exit
   | apply V.regK
   | refine zvd ?_
   | refine zve ?_
   | (refine zvf (fun h => ?_) (fun h => ?_) <;> (replace h := zB h) <;> (try (exfalso; first | exact h | omega)))
    | (refine zfc Tryz.results9 ?_; (try dsimp only)))
  rintro x H1 tr ⟨n, m0, rfl, hS0, b1, b2, hx1⟩
  have hg0 := ScG.new2 7 3
  have hfe := fun ys => feed_run (ys := ys) hS0 hg0 st A l z hall hA hl (by omega)
  repeat' (first
   | refine zka ?_
   | refine zkb ?_
   | (apply RKp.op; ((try simp (disch := (first | omega | exact zX | exact zO | fail)) only [go_sem, Nat.reduceDiv, Nat.reduceMod, Nat.reduceAdd, Nat.reduceSub, Nat.reduceEqDiff, Nat.reduceLeDiff, Nat.reduceLT, Nat.reduceMul, reduceIte, Nat.reducePow, Int.reduceEq]); exact zL); rfl)
   | (apply RKp.call; (apply hsh <;> (exact zD)); rfl)
   | (apply RKp.callE; (apply hfe <;> (exact zD)); (intro x; rfl))
   | refine zkc ?_
   | apply RKg.tt
   | apply RKg.ff
   | refine zkd ?_
   | refine zke ?_
   | refine zkf ?_
   | (refine RKg.split (fun h => ?_) (fun h => ?_) <;> (try rw [h]) <;> (replace h := zB h) <;> (try (exfalso; first | exact h | omega)))
   | apply RK.nil
   | apply V.sq
   | apply V.bl
   | apply V.sc
   | apply V.skip
   | apply V.label
   | apply V.ret
   | apply V.exit
   | apply SeqQ.normal
   | apply SeqQ.ret
   | apply SeqQ.exit
   | apply BlockQ.normal
   | apply BlockQ.ret
   | apply BlockQ.here
   | refine zbt ?_
   | apply LoopS.ret
   | apply LoopS.exit
   | apply LoopF.ret
   | apply LoopF.exit
   | apply V.regK
   | refine zvd ?_
   | refine zve ?_
   | (refine zvf (fun h => ?_) (fun h => ?_) <;> (replace h := zB h) <;> (try (exfalso; first | exact h | omega)))
    | (refine zfc Tryz.results9 ?_; (try dsimp only)))
  rintro x H2 tr2 ⟨cnt, m2, e2, rfl, hS2, hF2⟩
  obtain ⟨hg2, gw, gh⟩ := fed_G hg0 l hl
  generalize (fedTo (Sc.new (min (max 7 2) 300) (min (max 3 1) 100)) l).2.2 = X at *
  have gw7 : X.w = 7 := gw
  have gh3 : X.h = 3 := gh
  have hrows := fun ys => Rows_run (ys := ys) (lo := 0) hS2 hg2
  have lnL : ∀ G, primL 0 G (builtinA EZ .len #[25] 3 [L]) = some (.v (.int .i64 ms.length), G, rdTr L) := fun G => len_intX 0 (H0 := G) (.inl hL) G (Ext.refl G)
  repeat' (first
   | refine zka ?_
   | refine zkb ?_
   | (apply RKp.op; ((try simp (disch := (first | omega | exact zX | exact zO | fail)) only [go_sem, Nat.reduceDiv, Nat.reduceMod, Nat.reduceAdd, Nat.reduceSub, Nat.reduceEqDiff, Nat.reduceLeDiff, Nat.reduceLT, Nat.reduceMul, reduceIte, Nat.reducePow, Int.reduceEq]); exact zL); rfl)
   | (apply RKp.callR; (apply hrows <;> (exact zD)); rfl; intro tr htr)
   | refine zkc ?_
   | apply RKg.tt
   | apply RKg.ff
   | refine zkd ?_
   | refine zke ?_
   | refine zkf ?_
   | (refine RKg.split (fun h => ?_) (fun h => ?_) <;> (try rw [h]) <;> (replace h := zB h) <;> (try (exfalso; first | exact h | omega)))
   | apply RK.nil
   | apply V.sq
   | apply V.bl
   | apply V.sc
   | apply V.skip
   | apply V.label
   | apply V.ret
   | apply V.exit
   | apply SeqQ.normal
   | apply SeqQ.ret
   | apply SeqQ.exit
   | apply BlockQ.normal
   | apply BlockQ.ret
   | apply BlockQ.here
   | refine zbt ?_
   | apply LoopS.ret
   | apply LoopS.exit
   | apply LoopF.ret
   | apply LoopF.exit
   | apply V.regK
   | refine zvd ?_
   | refine zve ?_
   | (refine zvf (fun h => ?_) (fun h => ?_) <;> (replace h := zB h) <;> (try (exfalso; first | exact h | omega)))
    | (refine zfc Tryz.results9 ?_; (try dsimp only)))
  apply V.lpS [8, 4, 9, 10, 11, 12, 13, 24, 25, 26, 27, 28, 29, 30, 31, 32, 33, 34, 35, 36, 37, 38, 39, 40, 41, 42, 43, 44, 45, 46, 47, 48, 49, 50, 51, 52, 53, 54, 55, 56, 57, 58, 59, 60, 61, 62, 63, 64, 65, 66, 67, 68, 69, 70, 71, 72, 73, 74, 75, 76, 77, 78, 79, 80, 81, 82, 83] (fun k xs H3 => ∃ (i : Nat) (g : _) (m' e' : Nat) (s : Sc), xs = .v (.int .i64 i) :: g ∧ k = ms.length - i ∧ i ≤ ms.length ∧ i ≤ 30 ∧ SP 108 0 H3 n m' e' s ∧ ScG s ∧ s.w = 7 ∧ s.h = 3 ∧ s.rows = X.rows) ms.length
  focus (intro xs; simp only [putMany, set2, Nat.reduceAdd, Nat.reduceDiv, Nat.reduceMod, nth_zero, nth_succ, List.set_cons_zero, List.set_cons_succ]; rfl)
  focus (first | rfl | simp only [readMany, nth_zero, nth_succ, Nat.reduceDiv, Nat.reduceMod])
  · exact ⟨0, _, m2, e2, X, rfl, rfl, Nat.zero_le _, by omega, hS2, hg2, gw7, gh3, rfl⟩
  · rintro k xs H3 ⟨i, g, m', e', s, rfl, rfl, hi, hi2, hS, hg, hw, hh, hr⟩
    by_cases hlt : i < ms.length ∧ i < 30
    · obtain ⟨hlt, hlt2⟩ := hlt
      have ixE := fun G => ix_intX 0 (H0 := G) (.inl hL) G (Ext.refl G) .i64 (i : Int) (by omega) (by omega)
      have ldE := fun G => ld_intX 0 (H0 := G) (.inl hL) G (Ext.refl G) i hlt
      have hv := hms _ (getMem 0 hlt)
      generalize ms.getD i 0 = v at *
      obtain ⟨k1, k2, k3⟩ := mod_8 v
      obtain ⟨j1, j2, j3⟩ := mod_20 (v.tdiv 8)
      have hd : -9223372036854775808 ≤ v.tdiv 8 ∧ v.tdiv 8 ≤ 9223372036854775807 := by
        rcases Int.le_total 0 v with h | h
        · rw [Int.tdiv_eq_ediv_of_nonneg h]; omega
        · have : v.tdiv 8 = -((-v).tdiv 8) := by rw [Int.neg_tdiv]; omega
          rw [this, Int.tdiv_eq_ediv_of_nonneg (by omega)]; omega
      have hd2 : (v.tdiv 8 % 20).tdiv 2 = v.tdiv 8 % 20 / 2 := Int.tdiv_eq_ediv_of_nonneg (by omega)
      have hq : (v % 8).toNat < 8 := by omega
      obtain ⟨o1, o2, o3, o4⟩ := movs_ok _ hq
      have hLd : nth [] [[AV.v (.int .i32 65)], [.v (.int .i32 66)], [.v (.int .i32 67)], [.v (.int .i32 68)], [.v (.int .i32 72)], [.v (.int .i32 109)], [.v (.int .i32 122)], [.v (.int .i32 72)]] (v % 8).toNat = [.v (.int .i32 (movs.getD (v % 8).toNat 0))] := nth_runes movs _ hq
      generalize movs.getD (v % 8).toNat 0 = r at *
      have nn := hS.nn; have mn := hS.mn
      have hA2 : SlH (((H3.push ⟨21, 1, 0, runes movs, none⟩).push ⟨3, 1, 0, ints [v.tdiv 8 % 20, v.tdiv 8 % 20 / 2], none⟩).push (evk 3 r (.os (H3.next + 1) 0 0 2) ⟨#[]⟩)) 1 (.os (H3.next + 1) 0 0 2) (ints [v.tdiv 8 % 20, v.tdiv 8 % 20 / 2]) :=
        .inr ⟨H3.next + 1, 0, 0, ⟨3, 1, 0, ints [v.tdiv 8 % 20, v.tdiv 8 % 20 / 2], none⟩, rfl, by (first | omega | (simp only [next_push, next_set, next_empty]; done) | (simp only [next_push, next_set, next_empty]; omega)), by simp (disch := (first | omega | exact zX | fail)) only [get_set, get_push, next_push, next_set, if_pos', if_neg', if_true, if_false, reduceIte], rfl, rfl, rfl, by simp [ints], by simp [ints]⟩
      have hDo := fun ys => Do_run (ys := ys) (hS.ext ((((Ext.refl _).push ⟨21, 1, 0, runes movs, none⟩).push ⟨3, 1, 0, ints [v.tdiv 8 % 20, v.tdiv 8 % 20 / 2], none⟩).push (evk 3 r (.os (H3.next + 1) 0 0 2) ⟨#[]⟩))) hg 3 r ⟨o3, o4⟩ ⟨#[]⟩ hA2 (fun k ⟨_, _, _, hk⟩ => by cases hk; omega) (by simp) (fun x hx => by simp at hx; omega)
      repeat' (first
       | refine zka ?_
       | refine zkb ?_
       | (apply RKp.op; ((try simp (disch := (first | omega | exact zX | exact zO | fail)) only [lnL, ixE, ldE, k1, j1, hd2, hLd, go_sem, Nat.reduceDiv, Nat.reduceMod, Nat.reduceAdd, Nat.reduceSub, Nat.reduceEqDiff, Nat.reduceLeDiff, Nat.reduceLT, Nat.reduceMul, reduceIte, Nat.reducePow, Int.reduceEq]); exact zL); rfl)
       | (apply RKp.callE; (apply hDo <;> (exact zD)); (intro x; rfl))
       | refine zkc ?_
       | apply RKg.tt
       | apply RKg.ff
       | refine zkd ?_
       | refine zke ?_
       | refine zkf ?_
       | (refine RKg.split (fun h => ?_) (fun h => ?_) <;> (try rw [h]) <;> (replace h := zB h) <;> (try (exfalso; first | exact h | omega)))
       | apply RK.nil
       | apply V.sq
       | apply V.bl
       | apply V.sc
       | apply V.skip
       | apply V.label
       | apply V.ret
       | apply V.exit
       | apply SeqQ.normal
       | apply SeqQ.ret
       | apply SeqQ.exit
       | apply BlockQ.normal
       | apply BlockQ.ret
       | apply BlockQ.here
       | refine zbt ?_
       | apply LoopS.ret
       | apply LoopS.exit
       | apply LoopF.ret
       | apply LoopF.exit
       | apply V.regK
       | refine zvd ?_
       | refine zve ?_
       | (refine zvf (fun h => ?_) (fun h => ?_) <;> (replace h := zB h) <;> (try (exfalso; first | exact h | omega)))
        | (refine zfc Tryz.results9 ?_; (try dsimp only)))
      rintro x H4 tr4 ⟨m4, e4, hS4, hF4, hO4⟩
      have hg4 := (hg.csi r (a := [v.tdiv 8 % 20, v.tdiv 8 % 20 / 2]) (fun x hx => by simp at hx; omega))
      have hr4 := csi_rows s r [v.tdiv 8 % 20, v.tdiv 8 % 20 / 2] o1 o2
      change SP _ _ _ _ _ _ (s.csi r [v.tdiv 8 % 20, v.tdiv 8 % 20 / 2]) at hS4
      have hO5 := hO4.sl
      change SlH _ _ _ (rowsA []) at hO5
      have lnO := fun G (hx : Ext H4 G) => len_rwX 0 hO5 G hx
      obtain ⟨hg5, w5, h5⟩ := hg4
      generalize s.csi r [v.tdiv 8 % 20, v.tdiv 8 % 20 / 2] = s4 at *
      have hcur := fun ys => Cursor_run (ys := ys) (lo := 0) hS4
      have t1 := hg5.r0; have t2 := hg5.rh; have t3 := hg5.c0; have t4 := hg5.cw
      repeat' (first
       | refine zka ?_
       | refine zkb ?_
       | (apply RKp.op; ((try simp (disch := (first | omega | exact zX | exact zO | fail)) only [lnO, List.length_nil, go_sem, Nat.reduceDiv, Nat.reduceMod, Nat.reduceAdd, Nat.reduceSub, Nat.reduceEqDiff, Nat.reduceLeDiff, Nat.reduceLT, Nat.reduceMul, reduceIte, Nat.reducePow, Int.reduceEq]); exact zL); rfl)
       | (apply RKp.callR; (apply hcur <;> (exact zD)); rfl; intro tr htr)
       | refine zkc ?_
       | apply RKg.tt
       | apply RKg.ff
       | refine zkd ?_
       | refine zke ?_
       | refine zkf ?_
       | (refine RKg.split (fun h => ?_) (fun h => ?_) <;> (try rw [h]) <;> (replace h := zB h) <;> (try (exfalso; first | exact h | omega)))
       | apply RK.nil
       | apply V.sq
       | apply V.bl
       | apply V.sc
       | apply V.skip
       | apply V.label
       | apply V.ret
       | apply V.exit
       | apply SeqQ.normal
       | apply SeqQ.ret
       | apply SeqQ.exit
       | apply BlockQ.normal
       | apply BlockQ.ret
       | apply BlockQ.here
       | refine zbt ?_
       | apply LoopS.ret
       | apply LoopS.exit
       | apply LoopF.ret
       | apply LoopF.exit
       | apply V.regK
       | refine zvd ?_
       | refine zve ?_
       | (refine zvf (fun h => ?_) (fun h => ?_) <;> (replace h := zB h) <;> (try (exfalso; first | exact h | omega)))
        | (refine zfc Tryz.results9 ?_; (try dsimp only)))
      all_goals first
        | (exfalso; simp at h; done)
        | exact LoopS.again (ms.length - (i + 1)) (by rfl) (by omega) ⟨i + 1, _, m4, e4, s4, rfl, rfl, by omega, by omega, hS4.ext ((Ext.refl _).push _), hg5, w5.trans hw, h5.trans hh, hr4.trans hr⟩
        | trace_state
    · have hrw := fun ys => Rows_run (ys := ys) (lo := 0) hS hg
      have w3 := hg.w3; have hh2 := hg.h2; have hln := hg.len
      have heq : ∀ ys G, CallRo EZ ys 0 42 [.sl 2 (rowsA s.rows), .sl 2 (rowsA X.rows)] G (.v (.bool true)) := fun ys G => by
        have hb : ∀ r ∈ s.rows, r.1.length < 2 ^ 40 := fun r hr => by have := (hg.rw r hr).2.2; omega
        have := EqRows_run (ys := ys) (lo := 0) (H := G) (A := .sl 2 (rowsA s.rows)) (B := .sl 2 (rowsA X.rows)) (.inl (.inl rfl)) (.inl (.inl rfl)) (by omega) (by rw [← hr]; omega) hb (by rw [← hr]; exact hb)
        rwa [decide_eq_true hr] at this
      repeat' (first
       | refine zka ?_
       | refine zkb ?_
       | (apply RKp.op; ((try simp (disch := (first | omega | exact zX | exact zO | fail)) only [lnL, go_sem, Nat.reduceDiv, Nat.reduceMod, Nat.reduceAdd, Nat.reduceSub, Nat.reduceEqDiff, Nat.reduceLeDiff, Nat.reduceLT, Nat.reduceMul, reduceIte, Nat.reducePow, Int.reduceEq]); exact zL); rfl)
       | (apply RKp.callR; ((first | apply hrw | apply heq) <;> (exact zD)); rfl; intro tr htr)
       | refine zkc ?_
       | apply RKg.tt
       | apply RKg.ff
       | refine zkd ?_
       | refine zke ?_
       | refine zkf ?_
       | (refine RKg.split (fun h => ?_) (fun h => ?_) <;> (try rw [h]) <;> (replace h := zB h) <;> (try (exfalso; first | exact h | omega)))
       | apply RK.nil
       | apply V.sq
       | apply V.bl
       | apply V.sc
       | apply V.skip
       | apply V.label
       | apply V.ret
       | apply V.exit
       | apply SeqQ.normal
       | apply SeqQ.ret
       | apply SeqQ.exit
       | apply BlockQ.normal
       | apply BlockQ.ret
       | apply BlockQ.here
       | refine zbt ?_
       | apply LoopS.ret
       | apply LoopS.exit
       | apply LoopF.ret
       | apply LoopF.exit
       | apply V.regK
       | refine zvd ?_
       | refine zve ?_
       | (refine zvf (fun h => ?_) (fun h => ?_) <;> (replace h := zB h) <;> (try (exfalso; first | exact h | omega)))
        | (refine zfc Tryz.results9 ?_; (try dsimp only)))
theorem wd_intsE2 {d : Nat} {es : List (List AV)} (h : ∀ c ∈ es, Wd Tryz.prog (d + 1) 3 c) : ∃ a : List Int, es = ints a ∧ ∀ x ∈ a, -9223372036854775808 ≤ x ∧ x ≤ 9223372036854775807 := by
  induction es with
  | nil => exact ⟨[], rfl, by simp⟩
  | cons c r ih =>
    have h0 := h c List.mem_cons_self
    simp only [Wd, Tryz.underlying3] at h0
    obtain ⟨x, rfl, hx⟩ := h0
    obtain ⟨l, rfl, hl⟩ := ih fun c hc => h c (List.mem_cons_of_mem _ hc)
    refine ⟨x :: l, rfl, fun c hc => ?_⟩
    rcases List.mem_cons.1 hc with rfl | hc
    · exact i64_wf hx
    · exact hl c hc
theorem wd_ints2 {d : Nat} {u : List AV} (h : Wd Tryz.prog (d + 2) 25 u) : ∃ (A : AV) (a : List Int), u = [A] ∧ Sl 1 A (ints a) ∧ a.length < 2 ^ 63 ∧ ∀ x ∈ a, -9223372036854775808 ≤ x ∧ x ≤ 9223372036854775807 := by
  unfold Wd at h
  rw [Tryz.underlying25] at h
  obtain ⟨x, es, rfl, hs, hlen, he⟩ := h
  obtain ⟨a, rfl, ha⟩ := wd_intsE2 he
  have hc3 : Tryz.prog.cellsOf 3 = 1 := by kernel_rfl
  rw [hc3] at hs
  rw [ints_len] at hlen
  exact ⟨x, a, rfl, hs, by unfold maxLen at hlen; omega, ha⟩
theorem ScreenMoves_run (str : ByteArray) (hs : str.size ≤ maxLen) (v : List AV) (hv : Wd Tryz.prog 6 25 v) : WC EZ [] 0 9 [.v (.string str), v.getD 0 .dead] .empty fun x _ => x = .v (.bool true) := by
  obtain ⟨L, ms, rfl, hL, hlen, hms⟩ := wd_ints2 (d := 4) hv
  exact ScreenMoves_law str hs hL hlen hms
end
end Go.Am
