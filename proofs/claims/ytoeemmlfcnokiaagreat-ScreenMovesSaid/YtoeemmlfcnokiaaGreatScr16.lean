/- ScreenHome, ScreenErase. -/
import Derived.Test.YtoeemmlfcnokiaaGreatScr14
import Derived.Test.YtoeemmlfcnokiaaGreatAmF
set_option linter.all false
set_option linter.deprecated false
namespace Go.Am
open Go.Proofs
set_option maxRecDepth 8000
set_option maxHeartbeats 4000000
theorem era_at {l : List Ce} {a b : Nat} (hl : rowG l) (h : a < b) (hb : b ≤ l.length) (j : Nat) (hj : j < l.length) : (eraL l a b).getD j zeroC = if a ≤ j ∧ j < b then blankC else if j + 1 = a ∧ (l.getD a zeroC).w = 0 then blankC else if j = b ∧ (l.getD j zeroC).w = 0 then blankC else l.getD j zeroC := by
  unfold eraL
  rw [if_neg (by omega), putL_at _ _ _ _ hj, blanks_len, show a + (b - a) = b by omega]
  split
  · rename_i h1
    exact blanks_at _ _ (by omega)
  · rfl
theorem blanks_of {l : List Ce} {n : Nat} (h : l.length = n) (hj : ∀ j, j < n → l.getD j zeroC = blankC) : l = blanks n :=
  ce_ext (by rw [blanks_len]; exact h) fun j h1 => by rw [hj j (by omega), blanks_at n j (by omega)]
theorem rowEra_all {w : Int} {r : Rw} (h : RwG w r) (w2 : 2 ≤ w) : rowEra r 0 w = (blanks w.toNat, false) := by
  have hl := h.2.2
  have h1 : eraOk r.1 0 w := ⟨h.1, by omega, by omega, by omega⟩
  unfold rowEra erL erW
  rw [if_pos h1, if_pos h1]
  congr 1
  · refine blanks_of (by rw [eraL_len]; omega) fun j hj => ?_
    rw [era_at h.1 (by show (0 : Int).toNat < w.toNat; omega) (by omega) j (by omega), if_pos ⟨by show (0 : Int).toNat ≤ j; simp, hj⟩]
  · unfold eraW
    rw [decide_eq_false (by omega), Bool.and_false]
theorem rowEra_two {w c : Int} {r : Rw} (h : RwG w r) (w2 : 2 ≤ w) (c0 : 0 ≤ c) (cw : c < w) : rowEra (rowEra r 0 (c + 1)) c w = (blanks w.toNat, false) := by
  have hl := h.2.2
  have h0 := h.era 0 (c + 1)
  have hl0 := h0.2.2
  have h1 : eraOk r.1 0 (c + 1) := ⟨h.1, by omega, by omega, by omega⟩
  have h2 : eraOk (rowEra r 0 (c + 1)).1 c w := ⟨h0.1, by omega, by omega, by omega⟩
  have e1 : ∀ j, j < w.toNat → j ≤ c.toNat → (rowEra r 0 (c + 1)).1.getD j zeroC = blankC := fun j hj hc => by
    show (erL r.1 0 (c + 1)).getD j zeroC = blankC
    unfold erL
    rw [if_pos h1, era_at h.1 (by show (0 : Int).toNat < (c + 1).toNat; omega) (by omega) j (by omega), if_pos ⟨by show (0 : Int).toNat ≤ j; simp, by omega⟩]
  generalize rowEra r 0 (c + 1) = q at *
  unfold rowEra erL erW
  rw [if_pos h2, if_pos h2]
  congr 1
  · refine blanks_of (by rw [eraL_len]; omega) fun j hj => ?_
    rw [era_at h0.1 (by omega) (by omega) j (by omega)]
    split
    · rfl
    · split
      · rfl
      · split
        · rfl
        · exact e1 j hj (by omega)
  · unfold eraW
    rw [decide_eq_false (by omega), Bool.and_false]
theorem clr_rows {s : Sc} (hg : ScG s) : (s.clr 2 true).rows = List.replicate s.rows.length (blanks s.w.toNat, false) :=
  rw_ext (by rw [clr_len, List.length_replicate]) fun j hj => by
    rw [clr_len] at hj
    rw [clr_at _ _ _ _ hj]
    have e : clr1 2 true s.w s.row s.col j (s.rows.getD j noRw) = rowEra (s.rows.getD j noRw) 0 s.w := by
      unfold clr1; split <;> simp
    rw [e, rowEra_all (hg.rw _ (getMem noRw hj)) hg.w2]
    simp [List.getD_eq_getElem?_getD, hj]
theorem ext_lt {s : ByteArray} (k : Nat) : (s.extract 0 (min s.size k)).size ≤ k := by
  rw [extract_size _ _ _ (Nat.zero_le _) (by omega)]; omega
theorem ScreenHome_law (str : ByteArray) (hs : str.size ≤ maxLen) : WC EZ [] 0 8 [.v (.string str)] .empty fun x _ => x = .v (.bool true) := by
  have hz := ext_lt (s := str) 150
  obtain ⟨A, l, z, hall, hA, hll, hl⟩ := All_call (str.extract 0 (min str.size 150)) (by omega)
  have hNew := fun ys G w h => New_E (ys := ys) (lo := 0) (H := G) w h
  have hsh := fun ys G => Short_run (ys := ys) (lo := 0) (H := G) str 150
  generalize str.extract 0 (min str.size 150) = st at *
  refine zvin Tryz.func8 Tryz.ntmps8 ?_
  repeat' (first
   | refine zka ?_
   | refine zkb ?_
   | (apply RKp.op; ((try simp (disch := (first | omega | exact zX | exact zO | fail)) only [go_sem, Nat.reduceDiv, Nat.reduceMod, Nat.reduceAdd, Nat.reduceSub, Nat.reduceEqDiff, Nat.reduceLeDiff, Nat.reduceLT, Nat.reduceMul, reduceIte, Nat.reducePow, Int.reduceEq]); exact zL); rfl)
   | (apply RKp.call; (apply begun_R <;> (exact zD)); rfl)
   | (apply RKp.callE; (apply hNew <;> (exact zD)); (intro x; rfl))
   | refine zkc ?_
   | apply RKg.tt
   | apply RKg.ff
   | refine zkd ?_
   | refine zke ?_
   | refine zkf ?_
   | (refine RKg.split (fun h => ?_) (fun h => ?_) <;> (try rw [h]) <;> (replace h := zB h) <;> (try (exfalso; first | exact h | omega)))
   | apply RK.nil
   | apply V.sq
   | apply V.bl
   | apply V.sc
   | apply V.skip
   | apply V.label
   | apply V.ret
   | apply V.exit
   | apply SeqQ.normal
   | apply SeqQ.ret
   | apply SeqQ.exit
   | apply BlockQ.normal
   | apply BlockQ.ret
   | apply BlockQ.here
   | refine zbt ?_
   | apply LoopS.ret
   | apply LoopS.exit
   | apply LoopF.ret
   | apply LoopF.exit
   | apply V.regK
   | refine zvd ?_
   | refine zve ?_
   | (refine zvf (fun h => ?_) (fun h => ?_) <;> (replace h := zB h) <;> (try (exfalso; first | exact h | omega)))
    | (refine zfc Tryz.results8 ?_; (try dsimp only)))
  rintro x H1 tr ⟨n, m0, rfl, hS0, b1, b2, hx1⟩
  have hg0 := ScG.new2 9 4
  have hfe := fun ys => feed_run (ys := ys) hS0 hg0 st A l z hall hA hl (by omega)
  repeat' (first
   | refine zka ?_
   | refine zkb ?_
   | (apply RKp.op; ((try simp (disch := (first | omega | exact zX | exact zO | fail)) only [go_sem, Nat.reduceDiv, Nat.reduceMod, Nat.reduceAdd, Nat.reduceSub, Nat.reduceEqDiff, Nat.reduceLeDiff, Nat.reduceLT, Nat.reduceMul, reduceIte, Nat.reducePow, Int.reduceEq]); exact zL); rfl)
   | (apply RKp.call; (apply hsh <;> (exact zD)); rfl)
   | (apply RKp.callE; (apply hfe <;> (exact zD)); (intro x; rfl))
   | refine zkc ?_
   | apply RKg.tt
   | apply RKg.ff
   | refine zkd ?_
   | refine zke ?_
   | refine zkf ?_
   | (refine RKg.split (fun h => ?_) (fun h => ?_) <;> (try rw [h]) <;> (replace h := zB h) <;> (try (exfalso; first | exact h | omega)))
   | apply RK.nil
   | apply V.sq
   | apply V.bl
   | apply V.sc
   | apply V.skip
   | apply V.label
   | apply V.ret
   | apply V.exit
   | apply SeqQ.normal
   | apply SeqQ.ret
   | apply SeqQ.exit
   | apply BlockQ.normal
   | apply BlockQ.ret
   | apply BlockQ.here
   | refine zbt ?_
   | apply LoopS.ret
   | apply LoopS.exit
   | apply LoopF.ret
   | apply LoopF.exit
   | apply V.regK
   | refine zvd ?_
   | refine zve ?_
   | (refine zvf (fun h => ?_) (fun h => ?_) <;> (replace h := zB h) <;> (try (exfalso; first | exact h | omega)))
    | (refine zfc Tryz.results8 ?_; (try dsimp only)))
  rintro x H2 tr2 ⟨cnt, m2, e2, rfl, hS2, hF2⟩
  obtain ⟨hg2, gw, gh⟩ := fed_G hg0 l hl
  generalize (fedTo (Sc.new (min (max 9 2) 300) (min (max 4 1) 100)) l).2.2 = s2 at *
  have nn2 := hS2.nn; have mn2 := hS2.mn
  have hDo := fun ys => Do_run (ys := ys) (hS2.ext ((Ext.refl _).push ⟨3, 1, 0, ints [2], none⟩)) hg2 3 74 (by omega) ⟨#[]⟩ (A := .os H2.next 0 0 1) (a := [2]) (.inr ⟨H2.next, 0, 0, _, rfl, by (first | omega | (simp only [next_push, next_set, next_empty]; done) | (simp only [next_push, next_set, next_empty]; omega)), by rw [get_push, if_pos rfl], rfl, rfl, rfl, by simp [ints], by simp [ints]⟩) (fun k ⟨_, _, _, hk⟩ => by cases hk; omega) (by simp) (by simp)
  repeat' (first
   | refine zka ?_
   | refine zkb ?_
   | (apply RKp.op; ((try simp (disch := (first | omega | exact zX | exact zO | fail)) only [go_sem, Nat.reduceDiv, Nat.reduceMod, Nat.reduceAdd, Nat.reduceSub, Nat.reduceEqDiff, Nat.reduceLeDiff, Nat.reduceLT, Nat.reduceMul, reduceIte, Nat.reducePow, Int.reduceEq]); exact zL); rfl)
   | (apply RKp.callE; (apply hDo <;> (exact zD)); (intro x; rfl))
   | refine zkc ?_
   | apply RKg.tt
   | apply RKg.ff
   | refine zkd ?_
   | refine zke ?_
   | refine zkf ?_
   | (refine RKg.split (fun h => ?_) (fun h => ?_) <;> (try rw [h]) <;> (replace h := zB h) <;> (try (exfalso; first | exact h | omega)))
   | apply RK.nil
   | apply V.sq
   | apply V.bl
   | apply V.sc
   | apply V.skip
   | apply V.label
   | apply V.ret
   | apply V.exit
   | apply SeqQ.normal
   | apply SeqQ.ret
   | apply SeqQ.exit
   | apply BlockQ.normal
   | apply BlockQ.ret
   | apply BlockQ.here
   | refine zbt ?_
   | apply LoopS.ret
   | apply LoopS.exit
   | apply LoopF.ret
   | apply LoopF.exit
   | apply V.regK
   | refine zvd ?_
   | refine zve ?_
   | (refine zvf (fun h => ?_) (fun h => ?_) <;> (replace h := zB h) <;> (try (exfalso; first | exact h | omega)))
    | (refine zfc Tryz.results8 ?_; (try dsimp only)))
  rintro x H3 tr3 ⟨m3, e3, hS3, hF3, hO3⟩
  have hg3 := (hg2.ev 3 74 (by omega) (a := [2]) (by simp)).1
  have w1 := hg2.w2; have w2 := hg2.c0
  have r3 : (s2.ev 3 74 [2]).1.rows = List.replicate 4 (blanks 9, false) := by
    have hgc := hg2.col (c := min s2.col (s2.w - 1)) (by omega) (by omega)
    have e : (s2.ev 3 74 [2]).1 = ({ s2 with col := min s2.col (s2.w - 1) } : Sc).clr 2 true := by
      simp [Sc.ev, Sc.csi, isCsi, argI]
    rw [e, clr_rows hgc]
    have h1 : s2.rows.length = 4 := by
      have := hg2.len
      have h4 : s2.h = 4 := gh
      omega
    have h2 : s2.w.toNat = 9 := by
      have h4 : s2.w = 9 := gw
      omega
    show List.replicate s2.rows.length (blanks s2.w.toNat, false) = _
    rw [h1, h2]
  have hw3 : (s2.ev 3 74 [2]).1.w = s2.w := (hg2.ev 3 74 (by omega) (a := [2]) (by simp)).2.2.1
  have hh3 : (s2.ev 3 74 [2]).1.h = s2.h := (hg2.ev 3 74 (by omega) (a := [2]) (by simp)).2.2.2
  generalize (s2.ev 3 74 [2]).1 = s3 at *
  have hDo2 := fun ys => Do_run (ys := ys) hS3 hg3 3 72 (by omega) ⟨#[]⟩ (A := .v (.slice none 0 0)) (a := []) (.inl (.inr ⟨rfl, .inr rfl⟩)) (fun k ⟨_, _, _, hk⟩ => by cases hk) (by simp) (by simp)
  repeat' (first
   | refine zka ?_
   | refine zkb ?_
   | (apply RKp.op; ((try simp (disch := (first | omega | exact zX | exact zO | fail)) only [go_sem, Nat.reduceDiv, Nat.reduceMod, Nat.reduceAdd, Nat.reduceSub, Nat.reduceEqDiff, Nat.reduceLeDiff, Nat.reduceLT, Nat.reduceMul, reduceIte, Nat.reducePow, Int.reduceEq]); exact zL); rfl)
   | (apply RKp.callE; (apply hDo2 <;> (exact zD)); (intro x; rfl))
   | refine zkc ?_
   | apply RKg.tt
   | apply RKg.ff
   | refine zkd ?_
   | refine zke ?_
   | refine zkf ?_
   | (refine RKg.split (fun h => ?_) (fun h => ?_) <;> (try rw [h]) <;> (replace h := zB h) <;> (try (exfalso; first | exact h | omega)))
   | apply RK.nil
   | apply V.sq
   | apply V.bl
   | apply V.sc
   | apply V.skip
   | apply V.label
   | apply V.ret
   | apply V.exit
   | apply SeqQ.normal
   | apply SeqQ.ret
   | apply SeqQ.exit
   | apply BlockQ.normal
   | apply BlockQ.ret
   | apply BlockQ.here
   | refine zbt ?_
   | apply LoopS.ret
   | apply LoopS.exit
   | apply LoopF.ret
   | apply LoopF.exit
   | apply V.regK
   | refine zvd ?_
   | refine zve ?_
   | (refine zvf (fun h => ?_) (fun h => ?_) <;> (replace h := zB h) <;> (try (exfalso; first | exact h | omega)))
    | (refine zfc Tryz.results8 ?_; (try dsimp only)))
  rintro x H4 tr4 ⟨m4, e4, hS4, hF4, hO4⟩
  have hg4 := (hg3.ev 3 72 (by omega) (a := []) (by simp)).1
  have r4 : (s3.ev 3 72 []).1.rows = List.replicate 4 (blanks 9, false) ∧ (s3.ev 3 72 []).1.row = 0 ∧ (s3.ev 3 72 []).1.col = 0 := by
    have h1 := hg3.h1; have h2 := hg3.w2
    refine ⟨?_, ?_, ?_⟩
    · rw [← r3]; simp [Sc.ev, Sc.csi, Sc.mov, isCsi]
    · simp [Sc.ev, Sc.csi, Sc.mov, isCsi, argI]; omega
    · simp [Sc.ev, Sc.csi, Sc.mov, isCsi, argI]; omega
  obtain ⟨q1, q2, q3⟩ := r4
  generalize (s3.ev 3 72 []).1 = s4 at *
  have hrows := fun ys => Rows_run (ys := ys) (lo := 0) hS4 hg4
  repeat' (first
   | refine zka ?_
   | refine zkb ?_
   | (apply RKp.op; ((try simp (disch := (first | omega | exact zX | exact zO | fail)) only [go_sem, Nat.reduceDiv, Nat.reduceMod, Nat.reduceAdd, Nat.reduceSub, Nat.reduceEqDiff, Nat.reduceLeDiff, Nat.reduceLT, Nat.reduceMul, reduceIte, Nat.reducePow, Int.reduceEq]); exact zL); rfl)
   | (apply RKp.callR; (apply hrows <;> (exact zD)); rfl; intro tr htr)
   | (apply RKp.callE; (apply hNew <;> (exact zD)); (intro x; rfl))
   | refine zkc ?_
   | apply RKg.tt
   | apply RKg.ff
   | refine zkd ?_
   | refine zke ?_
   | refine zkf ?_
   | (refine RKg.split (fun h => ?_) (fun h => ?_) <;> (try rw [h]) <;> (replace h := zB h) <;> (try (exfalso; first | exact h | omega)))
   | apply RK.nil
   | apply V.sq
   | apply V.bl
   | apply V.sc
   | apply V.skip
   | apply V.label
   | apply V.ret
   | apply V.exit
   | apply SeqQ.normal
   | apply SeqQ.ret
   | apply SeqQ.exit
   | apply BlockQ.normal
   | apply BlockQ.ret
   | apply BlockQ.here
   | refine zbt ?_
   | apply LoopS.ret
   | apply LoopS.exit
   | apply LoopF.ret
   | apply LoopF.exit
   | apply V.regK
   | refine zvd ?_
   | refine zve ?_
   | (refine zvf (fun h => ?_) (fun h => ?_) <;> (replace h := zB h) <;> (try (exfalso; first | exact h | omega)))
    | (refine zfc Tryz.results8 ?_; (try dsimp only)))
  rintro x H5 tr5 ⟨n5, m5, rfl, hS5, b3, b4, hx5⟩
  have hrows5 := fun ys => Rows_run (ys := ys) (lo := 0) hS5 hg0
  have hcur := fun ys => Cursor_run (ys := ys) (lo := 0) (hS4.ext hx5)
  have hl9 : (Sc.new (min (max 9 2) 300) (min (max 4 1) 100)).rows = List.replicate 4 (blanks 9, false) := rfl
  rw [hl9] at hrows5
  rw [q2, q3] at hcur
  have hbd : ∀ r ∈ List.replicate 4 ((blanks 9, false) : Rw), r.1.length < 2 ^ 40 := fun r hr => by
    rw [List.eq_of_mem_replicate hr]; simp [blanks]
  have heq : ∀ ys G, CallRo EZ ys 0 42 [.sl 2 (rowsA s4.rows), .sl 2 (rowsA (List.replicate 4 (blanks 9, false)))] G (.v (.bool true)) := fun ys G => by
    have := EqRows_run (ys := ys) (lo := 0) (H := G) (A := .sl 2 (rowsA s4.rows)) (B := .sl 2 (rowsA (List.replicate 4 (blanks 9, false)))) (.inl (.inl rfl)) (.inl (.inl rfl)) (by rw [q1]; simp) (by simp) (by rw [q1]; exact hbd) hbd
    rwa [decide_eq_true q1] at this
  repeat' (first
   | refine zka ?_
   | refine zkb ?_
   | (apply RKp.op; ((try simp (disch := (first | omega | exact zX | exact zO | fail)) only [go_sem, Nat.reduceDiv, Nat.reduceMod, Nat.reduceAdd, Nat.reduceSub, Nat.reduceEqDiff, Nat.reduceLeDiff, Nat.reduceLT, Nat.reduceMul, reduceIte, Nat.reducePow, Int.reduceEq]); exact zL); rfl)
   | (apply RKp.callR; ((first | apply hrows5 | apply heq | apply hcur) <;> (exact zD)); rfl; intro tr htr)
   | refine zkc ?_
   | apply RKg.tt
   | apply RKg.ff
   | refine zkd ?_
   | refine zke ?_
   | refine zkf ?_
   | (refine RKg.split (fun h => ?_) (fun h => ?_) <;> (try rw [h]) <;> (replace h := zB h) <;> (try (exfalso; first | exact h | omega)))
   | apply RK.nil
   | apply V.sq
   | apply V.bl
   | apply V.sc
   | apply V.skip
   | apply V.label
   | apply V.ret
   | apply V.exit
   | apply SeqQ.normal
   | apply SeqQ.ret
   | apply SeqQ.exit
   | apply BlockQ.normal
   | apply BlockQ.ret
   | apply BlockQ.here
   | refine zbt ?_
   | apply LoopS.ret
   | apply LoopS.exit
   | apply LoopF.ret
   | apply LoopF.exit
   | apply V.regK
   | refine zvd ?_
   | refine zve ?_
   | (refine zvf (fun h => ?_) (fun h => ?_) <;> (replace h := zB h) <;> (try (exfalso; first | exact h | omega)))
    | (refine zfc Tryz.results8 ?_; (try dsimp only)))
  rfl
theorem ScreenHome_run (str : ByteArray) (hs : str.size ≤ maxLen) : WC EZ [] 0 8 [.v (.string str)] .empty fun x _ => x = .v (.bool true) := ScreenHome_law str hs
/-- An event with numbers of one's own. -/
theorem Do_ints {H : AHeap} {n m e : Nat} {s : Sc} {ys : List (Nat × LRec)} (hS : SP 108 0 H n m e s) (hg : ScG s) (r : Int) (hr : -2147483648 ≤ r ∧ r ≤ 2147483647) (a : List Int) (h0 : a ≠ []) (hl : a.length < 2 ^ 40) (ha : ∀ x ∈ a, 0 ≤ x ∧ x ≤ 9999) (len : Nat) (hn : len = a.length) : CallE EZ ys 0 41 [.op n 0 0 0, .agg [.v (.int .i64 3), .v (.int .i32 r), .os H.next 0 0 len, .v (.string ⟨#[]⟩)]] (H.push ⟨3, 1, 0, ints a, none⟩) fun x H' => ∃ m' e', SP 108 0 H' n m' e' (s.csi r a) ∧ Fr H H' n m m' ∧ SlH H' 2 x (rowsA []) := by
  subst hn
  have nn := hS.nn; have mn := hS.mn
  obtain ⟨x, H', tr, h, m', e', h1, h2, h3⟩ := Do_run (ys := ys) (hS.ext ((Ext.refl _).push ⟨3, 1, 0, ints a, none⟩)) hg 3 r hr ⟨#[]⟩ (A := .os H.next 0 0 a.length) (a := a) (.inr ⟨H.next, 0, 0, ⟨3, 1, 0, ints a, none⟩, by rw [ints_len], by (first | omega | (simp only [next_push, next_set, next_empty]; done) | (simp only [next_push, next_set, next_empty]; omega)), by rw [get_push, if_pos rfl], rfl, rfl, rfl, by simp, by rw [List.drop_zero, List.take_length]⟩) (fun k ⟨_, _, _, hk⟩ => by cases hk; omega) hl ha
  have e1 : s.ev 3 r a = (s.csi r a, []) := rfl
  rw [e1] at h1 h3
  exact ⟨x, H', tr, h, m', e', h1, ((Fr.refl H n m).push _).trans h2, h3.sl⟩
theorem Do_none {H : AHeap} {n m e : Nat} {s : Sc} {ys : List (Nat × LRec)} (hS : SP 108 0 H n m e s) (hg : ScG s) (r : Int) (hr : -2147483648 ≤ r ∧ r ≤ 2147483647) : CallE EZ ys 0 41 [.op n 0 0 0, .agg [.v (.int .i64 3), .v (.int .i32 r), .v (.slice none 0 0), .v (.string ⟨#[]⟩)]] H fun x H' => ∃ m' e', SP 108 0 H' n m' e' (s.csi r []) ∧ Fr H H' n m m' ∧ SlH H' 2 x (rowsA []) := by
  obtain ⟨x, H', tr, h, m', e', h1, h2, h3⟩ := Do_run (ys := ys) hS hg 3 r hr ⟨#[]⟩ (A := .v (.slice none 0 0)) (a := []) (.inl (.inr ⟨rfl, .inr rfl⟩)) (fun k ⟨_, _, _, hk⟩ => by cases hk) (by simp) (by simp)
  have e1 : s.ev 3 r [] = (s.csi r [], []) := rfl
  rw [e1] at h1 h3
  exact ⟨x, H', tr, h, m', e', h1, h2, h3.sl⟩
theorem erase_alike {X : Sc} (hg : ScG X) (hc : X.col < X.w) : ((X.clr 1 false).clr 0 false).rows = (X.clr 2 false).rows :=
  rw_ext (by rw [clr_len, clr_len, clr_len]) fun j hj => by
    rw [clr_len, clr_len] at hj
    rw [clr_at _ _ _ _ (by rw [clr_len]; exact hj), clr_at _ _ _ _ hj, clr_at _ _ _ _ hj]
    have hr := hg.rw _ (getMem noRw hj)
    by_cases h : (j : Int) = X.row
    · have e1 : clr1 0 false X.w X.row X.col j (clr1 1 false X.w X.row X.col j (X.rows.getD j noRw)) = rowEra (rowEra (X.rows.getD j noRw) 0 (X.col + 1)) X.col X.w := by
        unfold clr1; rw [if_pos h, if_pos h]; simp
      have e2 : clr1 2 false X.w X.row X.col j (X.rows.getD j noRw) = rowEra (X.rows.getD j noRw) 0 X.w := by
        unfold clr1; rw [if_pos h]; simp
      exact e1.trans ((rowEra_two hr hg.w2 hg.c0 hc).trans ((rowEra_all hr hg.w2).symm.trans e2.symm))
    · have e1 : ∀ how r, clr1 how false X.w X.row X.col j r = r := fun how r => by
        unfold clr1; rw [if_neg h]; simp
      show clr1 0 false X.w X.row X.col j (clr1 1 false X.w X.row X.col j (X.rows.getD j noRw)) = _
      rw [e1, e1, e1]
theorem mod_8 (a : Int) : (a.tmod 8 + 8).tmod 8 = a % 8 ∧ -8 ≤ a.tmod 8 ∧ a.tmod 8 ≤ 8 := by
  rcases Int.le_total 0 a with h | h
  · rw [Int.tmod_eq_emod_of_nonneg h, Int.tmod_eq_emod_of_nonneg (by omega)]; omega
  · have e : a.tmod 8 = -((-a) % 8) := by rw [← Int.tmod_eq_emod_of_nonneg (by omega), Int.neg_tmod]; omega
    rw [e, Int.tmod_eq_emod_of_nonneg (by omega)]; omega
theorem ScreenErase_law (str : ByteArray) (hs : str.size ≤ maxLen) (c : Int) (hc : -9223372036854775808 ≤ c ∧ c ≤ 9223372036854775807) : WC EZ [] 0 10 [.v (.string str), .v (.int .i64 c)] .empty fun x _ => x = .v (.bool true) := by
  have hz := ext_lt (s := str) 60
  obtain ⟨A, l, z, hall, hA, hll, hl⟩ := All_call (str.extract 0 (min str.size 60)) (by omega)
  have hNew := fun ys G w h => New_E (ys := ys) (lo := 0) (H := G) w h
  have hsh := fun ys G => Short_run (ys := ys) (lo := 0) (H := G) str 60
  generalize str.extract 0 (min str.size 60) = st at *
  refine zvin Tryz.func10 Tryz.ntmps10 ?_
  repeat' (first
   | refine zka ?_
   | refine zkb ?_
   | (apply RKp.op; ((try simp (disch := (first | omega | exact zX | exact zO | fail)) only [go_sem, Nat.reduceDiv, Nat.reduceMod, Nat.reduceAdd, Nat.reduceSub, Nat.reduceEqDiff, Nat.reduceLeDiff, Nat.reduceLT, Nat.reduceMul, reduceIte, Nat.reducePow, Int.reduceEq]); exact zL); rfl)
   | (apply RKp.call; (apply begun_R <;> (exact zD)); rfl)
   | (apply RKp.callE; (apply hNew <;> (exact zD)); (intro x; rfl))
   | refine zkc ?_
   | apply RKg.tt
   | apply RKg.ff
   | refine zkd ?_
   | refine zke ?_
   | refine zkf ?_
   | (refine RKg.split (fun h => ?_) (fun h => ?_) <;> (try rw [h]) <;> (replace h := zB h) <;> (try (exfalso; first | exact h | omega)))
   | apply RK.nil
   | apply V.sq
   | apply V.bl
   | apply V.sc
   | apply V.skip
   | apply V.label
   | apply V.ret
   | apply V.exit
   | apply SeqQ.normal
   | apply SeqQ.ret
   | apply SeqQ.exit
   | apply BlockQ.normal
   | apply BlockQ.ret
   | apply BlockQ.here
   | refine zbt ?_
   | apply LoopS.ret
   | apply LoopS.exit
   | apply LoopF.ret
   | apply LoopF.exit
   | apply V.regK
   | refine zvd ?_
   | refine zve ?_
   | (refine zvf (fun h => ?_) (fun h => ?_) <;> (replace h := zB h) <;> (try (exfalso; first | exact h | omega)))
    | (refine zfc Tryz.results10 ?_; (try dsimp only)))
  rintro x H1 tr ⟨n, m0, rfl, hS0, b1, b2, hx1⟩
  repeat' (first
   | refine zka ?_
   | refine zkb ?_
   | (apply RKp.op; ((try simp (disch := (first | omega | exact zX | exact zO | fail)) only [go_sem, Nat.reduceDiv, Nat.reduceMod, Nat.reduceAdd, Nat.reduceSub, Nat.reduceEqDiff, Nat.reduceLeDiff, Nat.reduceLT, Nat.reduceMul, reduceIte, Nat.reducePow, Int.reduceEq]); exact zL); rfl)
   | (apply RKp.callE; (apply hNew <;> (exact zD)); (intro x; rfl))
   | refine zkc ?_
   | apply RKg.tt
   | apply RKg.ff
   | refine zkd ?_
   | refine zke ?_
   | refine zkf ?_
   | (refine RKg.split (fun h => ?_) (fun h => ?_) <;> (try rw [h]) <;> (replace h := zB h) <;> (try (exfalso; first | exact h | omega)))
   | apply RK.nil
   | apply V.sq
   | apply V.bl
   | apply V.sc
   | apply V.skip
   | apply V.label
   | apply V.ret
   | apply V.exit
   | apply SeqQ.normal
   | apply SeqQ.ret
   | apply SeqQ.exit
   | apply BlockQ.normal
   | apply BlockQ.ret
   | apply BlockQ.here
   | refine zbt ?_
   | apply LoopS.ret
   | apply LoopS.exit
   | apply LoopF.ret
   | apply LoopF.exit
   | apply V.regK
   | refine zvd ?_
   | refine zve ?_
   | (refine zvf (fun h => ?_) (fun h => ?_) <;> (replace h := zB h) <;> (try (exfalso; first | exact h | omega)))
    | (refine zfc Tryz.results10 ?_; (try dsimp only)))
  rintro x H1' tr' ⟨n', m0', rfl, hU0, b3, b4, hx2⟩
  have hg0 := ScG.new2 8 2
  have c1 := hS0.nn; have c2 := hS0.mn; have c3 := hS0.ne; have c4 := hU0.ne; have c5 := hU0.nn; have c6 := hU0.mn; have c7 := hx2.next
  replace hS0 := hS0.ext hx2
  have hfe := fun ys => feed_run (ys := ys) hS0 hg0 st A l z hall hA hl (by omega)
  repeat' (first
   | refine zka ?_
   | refine zkb ?_
   | (apply RKp.op; ((try simp (disch := (first | omega | exact zX | exact zO | fail)) only [go_sem, Nat.reduceDiv, Nat.reduceMod, Nat.reduceAdd, Nat.reduceSub, Nat.reduceEqDiff, Nat.reduceLeDiff, Nat.reduceLT, Nat.reduceMul, reduceIte, Nat.reducePow, Int.reduceEq]); exact zL); rfl)
   | (apply RKp.call; (apply hsh <;> (exact zD)); rfl)
   | (apply RKp.callE; (apply hfe <;> (exact zD)); (intro x; rfl))
   | refine zkc ?_
   | apply RKg.tt
   | apply RKg.ff
   | refine zkd ?_
   | refine zke ?_
   | refine zkf ?_
   | (refine RKg.split (fun h => ?_) (fun h => ?_) <;> (try rw [h]) <;> (replace h := zB h) <;> (try (exfalso; first | exact h | omega)))
   | apply RK.nil
   | apply V.sq
   | apply V.bl
   | apply V.sc
   | apply V.skip
   | apply V.label
   | apply V.ret
   | apply V.exit
   | apply SeqQ.normal
   | apply SeqQ.ret
   | apply SeqQ.exit
   | apply BlockQ.normal
   | apply BlockQ.ret
   | apply BlockQ.here
   | refine zbt ?_
   | apply LoopS.ret
   | apply LoopS.exit
   | apply LoopF.ret
   | apply LoopF.exit
   | apply V.regK
   | refine zvd ?_
   | refine zve ?_
   | (refine zvf (fun h => ?_) (fun h => ?_) <;> (replace h := zB h) <;> (try (exfalso; first | exact h | omega)))
    | (refine zfc Tryz.results10 ?_; (try dsimp only)))
  rintro x H2 tr2 ⟨cnt, m2, e2, rfl, hS2, hF2⟩
  have f1 := hF2.nw; have f2 := hF2.next
  have hU1 := hU0.fr (T' := 0) (e' := 0) hF2 (by omega) (by omega) (by omega) (by omega)
  have hfe2 := fun ys => feed_run (ys := ys) hU1 hg0 st A l z hall hA hl (by omega)
  repeat' (first
   | refine zka ?_
   | refine zkb ?_
   | (apply RKp.op; ((try simp (disch := (first | omega | exact zX | exact zO | fail)) only [go_sem, Nat.reduceDiv, Nat.reduceMod, Nat.reduceAdd, Nat.reduceSub, Nat.reduceEqDiff, Nat.reduceLeDiff, Nat.reduceLT, Nat.reduceMul, reduceIte, Nat.reducePow, Int.reduceEq]); exact zL); rfl)
   | (apply RKp.call; (apply hsh <;> (exact zD)); rfl)
   | (apply RKp.callE; (apply hfe2 <;> (exact zD)); (intro x; rfl))
   | refine zkc ?_
   | apply RKg.tt
   | apply RKg.ff
   | refine zkd ?_
   | refine zke ?_
   | refine zkf ?_
   | (refine RKg.split (fun h => ?_) (fun h => ?_) <;> (try rw [h]) <;> (replace h := zB h) <;> (try (exfalso; first | exact h | omega)))
   | apply RK.nil
   | apply V.sq
   | apply V.bl
   | apply V.sc
   | apply V.skip
   | apply V.label
   | apply V.ret
   | apply V.exit
   | apply SeqQ.normal
   | apply SeqQ.ret
   | apply SeqQ.exit
   | apply BlockQ.normal
   | apply BlockQ.ret
   | apply BlockQ.here
   | refine zbt ?_
   | apply LoopS.ret
   | apply LoopS.exit
   | apply LoopF.ret
   | apply LoopF.exit
   | apply V.regK
   | refine zvd ?_
   | refine zve ?_
   | (refine zvf (fun h => ?_) (fun h => ?_) <;> (replace h := zB h) <;> (try (exfalso; first | exact h | omega)))
    | (refine zfc Tryz.results10 ?_; (try dsimp only)))
  rintro x H3 tr3 ⟨cnt2, m3', e3', rfl, hU3, hF3⟩
  have f3 := hF3.nw; have f4 := hF3.next
  have f5 := hS2.mn
  have hS3 := hS2.fr (T' := 0) (e' := 0) hF3 (by omega) (by omega) (by omega) (by omega)
  obtain ⟨hg, gw, gh⟩ := fed_G hg0 l hl
  generalize (fedTo (Sc.new (min (max 8 2) 300) (min (max 2 1) 100)) l).2.2 = X at *
  have n1 := hS3.nn; have n2 := hS3.mn; have n3 := hU3.nn; have n4 := hU3.mn; have n5 := hS3.ne; have n6 := hU3.ne
  have d1 : n ≠ n' := by omega
  have d2 : n ≠ m3' := by omega
  have d3 : m2 ≠ n' := by omega
  have d4 : m2 ≠ m3' := by omega
  obtain ⟨k1, k2, k3⟩ := mod_8 c
  have hD1 := fun ys => Do_ints (ys := ys) (hS3.ext ((Ext.refl _).push ⟨65, 1, 0, [[.op n 0 0 0], [.op n' 0 0 0]], none⟩)) hg 72 (by omega) [1, 1 + c % 8] (by simp) (by simp) (fun x hx => by simp at hx; omega) 2 rfl
  repeat' (first
   | refine zka ?_
   | refine zkb ?_
   | (apply RKp.op; ((try simp (disch := (first | omega | exact zX | exact zO | fail)) only [k1, go_sem, Nat.reduceDiv, Nat.reduceMod, Nat.reduceAdd, Nat.reduceSub, Nat.reduceEqDiff, Nat.reduceLeDiff, Nat.reduceLT, Nat.reduceMul, reduceIte, Nat.reducePow, Int.reduceEq]); exact zL); rfl)
   | refine zkc ?_
   | apply RKg.tt
   | apply RKg.ff
   | refine zkd ?_
   | refine zke ?_
   | refine zkf ?_
   | (refine RKg.split (fun h => ?_) (fun h => ?_) <;> (try rw [h]) <;> (replace h := zB h) <;> (try (exfalso; first | exact h | omega)))
   | apply RK.nil
   | apply V.sq
   | apply V.bl
   | apply V.sc
   | apply V.skip
   | apply V.label
   | apply V.ret
   | apply V.exit
   | apply SeqQ.normal
   | apply SeqQ.ret
   | apply SeqQ.exit
   | apply BlockQ.normal
   | apply BlockQ.ret
   | apply BlockQ.here
   | refine zbt ?_
   | apply LoopS.ret
   | apply LoopS.exit
   | apply LoopF.ret
   | apply LoopF.exit
   | apply V.regK
   | refine zvd ?_
   | refine zve ?_
   | (refine zvf (fun h => ?_) (fun h => ?_) <;> (replace h := zB h) <;> (try (exfalso; first | exact h | omega)))
    | (refine zfc Tryz.results10 ?_; (try dsimp only)))
  apply V.un
  repeat' (first
   | refine zka ?_
   | refine zkb ?_
   | (apply RKp.op; ((try simp (disch := (first | omega | exact zX | exact zO | fail)) only [k1, go_sem, Nat.reduceDiv, Nat.reduceMod, Nat.reduceAdd, Nat.reduceSub, Nat.reduceEqDiff, Nat.reduceLeDiff, Nat.reduceLT, Nat.reduceMul, reduceIte, Nat.reducePow, Int.reduceEq]); exact zL); rfl)
   | (apply RKp.callE; (apply hD1 <;> (exact zD)); (intro x; rfl))
   | refine zkc ?_
   | apply RKg.tt
   | apply RKg.ff
   | refine zkd ?_
   | refine zke ?_
   | refine zkf ?_
   | (refine RKg.split (fun h => ?_) (fun h => ?_) <;> (try rw [h]) <;> (replace h := zB h) <;> (try (exfalso; first | exact h | omega)))
   | apply RK.nil
   | apply V.sq
   | apply V.bl
   | apply V.sc
   | apply V.skip
   | apply V.label
   | apply V.ret
   | apply V.exit
   | apply SeqQ.normal
   | apply SeqQ.ret
   | apply SeqQ.exit
   | apply BlockQ.normal
   | apply BlockQ.ret
   | apply BlockQ.here
   | refine zbt ?_
   | apply LoopS.ret
   | apply LoopS.exit
   | apply LoopF.ret
   | apply LoopF.exit
   | apply V.regK
   | refine zvd ?_
   | refine zve ?_
   | (refine zvf (fun h => ?_) (fun h => ?_) <;> (replace h := zB h) <;> (try (exfalso; first | exact h | omega)))
    | (refine zfc Tryz.results10 ?_; (try dsimp only)))
  rintro x H4 tr4 ⟨m4, e4, hS4, hF4, _⟩
  have g1 := hF4.nw; have g2 := hF4.next; rw [next_push] at g1 g2
  have hU4 := (hU3.ext ((Ext.refl _).push ⟨65, 1, 0, [[.op n 0 0 0], [.op n' 0 0 0]], none⟩)).fr (T' := 0) (e' := 0) hF4 (by omega) (by omega) (by omega) (by omega)
  have gB : H4.get H3.next = some ⟨65, 1, 0, [[.op n 0 0 0], [.op n' 0 0 0]], none⟩ := by rw [hF4.keep _ (by (first | omega | (simp only [next_push, next_set, next_empty]; done) | (simp only [next_push, next_set, next_empty]; omega))) (by omega) (by omega), get_push, if_pos rfl]
  have hX := hg.csi 72 (a := [1, 1 + c % 8]) (fun x hx => by simp at hx; omega)
  have hX1 : X.csi 72 [1, 1 + c % 8] = { X with row := 0, col := c % 8 } := by
    have h1 := hg.h1; have h8 : X.w = 8 := gw
    have a1 : argI [1, 1 + c % 8] 0 1 = 1 := by simp [argI]
    have a2 : argI [1, 1 + c % 8] 1 1 = 1 + c % 8 := by
      unfold argI
      rw [if_neg (by show ¬ (1 + c % 8 = 0); omega)]; rfl
    have a3 : min 1 X.h - 1 = 0 := by omega
    have a4 : min (1 + c % 8) X.w - 1 = c % 8 := by omega
    have e : X.csi 72 [1, 1 + c % 8] = { X with row := min (argI [1, 1 + c % 8] 0 1) X.h - 1, col := min (argI [1, 1 + c % 8] 1 1) X.w - 1 } := rfl
    rw [e, a1, a2, a3, a4]
  have p4 := hS4.mn
  have hD2 := fun ys => Do_ints (ys := ys) hU4 hg 72 (by omega) [1, 1 + c % 8] (by simp) (by simp) (fun x hx => by simp at hx; omega) 2 rfl
  generalize X.csi 72 [1, 1 + c % 8] = X1 at *
  obtain ⟨hgX, gwX, ghX⟩ := hX
  repeat' (first
   | refine zka ?_
   | refine zkb ?_
   | (apply RKp.op; ((try simp (disch := (first | omega | exact zX | exact zO | fail)) only [go_sem, Nat.reduceDiv, Nat.reduceMod, Nat.reduceAdd, Nat.reduceSub, Nat.reduceEqDiff, Nat.reduceLeDiff, Nat.reduceLT, Nat.reduceMul, reduceIte, Nat.reducePow, Int.reduceEq]); exact zL); rfl)
   | refine zkc ?_
   | apply RKg.tt
   | apply RKg.ff
   | refine zkd ?_
   | refine zke ?_
   | refine zkf ?_
   | (refine RKg.split (fun h => ?_) (fun h => ?_) <;> (try rw [h]) <;> (replace h := zB h) <;> (try (exfalso; first | exact h | omega)))
   | apply RK.nil
   | apply V.sq
   | apply V.bl
   | apply V.sc
   | apply V.skip
   | apply V.label
   | apply V.ret
   | apply V.exit
   | apply SeqQ.normal
   | apply SeqQ.ret
   | apply SeqQ.exit
   | apply BlockQ.normal
   | apply BlockQ.ret
   | apply BlockQ.here
   | refine zbt ?_
   | apply LoopS.ret
   | apply LoopS.exit
   | apply LoopF.ret
   | apply LoopF.exit
   | apply V.regK
   | refine zvd ?_
   | refine zve ?_
   | (refine zvf (fun h => ?_) (fun h => ?_) <;> (replace h := zB h) <;> (try (exfalso; first | exact h | omega)))
    | (refine zfc Tryz.results10 ?_; (try dsimp only)))
  apply V.un
  repeat' (first
   | refine zka ?_
   | refine zkb ?_
   | (apply RKp.op; ((try simp (disch := (first | omega | exact zX | exact zO | fail)) only [gB, k1, go_sem, Nat.reduceDiv, Nat.reduceMod, Nat.reduceAdd, Nat.reduceSub, Nat.reduceEqDiff, Nat.reduceLeDiff, Nat.reduceLT, Nat.reduceMul, reduceIte, Nat.reducePow, Int.reduceEq]); exact zL); rfl)
   | (apply RKp.callE; (apply hD2 <;> (exact zD)); (intro x; rfl))
   | refine zkc ?_
   | apply RKg.tt
   | apply RKg.ff
   | refine zkd ?_
   | refine zke ?_
   | refine zkf ?_
   | (refine RKg.split (fun h => ?_) (fun h => ?_) <;> (try rw [h]) <;> (replace h := zB h) <;> (try (exfalso; first | exact h | omega)))
   | apply RK.nil
   | apply V.sq
   | apply V.bl
   | apply V.sc
   | apply V.skip
   | apply V.label
   | apply V.ret
   | apply V.exit
   | apply SeqQ.normal
   | apply SeqQ.ret
   | apply SeqQ.exit
   | apply BlockQ.normal
   | apply BlockQ.ret
   | apply BlockQ.here
   | refine zbt ?_
   | apply LoopS.ret
   | apply LoopS.exit
   | apply LoopF.ret
   | apply LoopF.exit
   | apply V.regK
   | refine zvd ?_
   | refine zve ?_
   | (refine zvf (fun h => ?_) (fun h => ?_) <;> (replace h := zB h) <;> (try (exfalso; first | exact h | omega)))
    | (refine zfc Tryz.results10 ?_; (try dsimp only)))
  rintro x H5 tr5 ⟨m5, e5, hU5, hF5, _⟩
  have g3 := hF5.nw; have g4 := hF5.next
  have hS5 := hS4.fr (T' := 0) (e' := 0) hF5 (by omega) (by omega) (by omega) (by omega)
  have gB5 : H5.get H3.next = some ⟨65, 1, 0, [[.op n 0 0 0], [.op n' 0 0 0]], none⟩ := by rw [hF5.keep _ (by omega) (by omega) (by omega)]; exact gB
  have p5 := hU5.mn
  have hD3 := fun ys => Do_ints (ys := ys) hS5 hgX 75 (by omega) [1] (by simp) (by simp) (by simp) 1 rfl
  repeat' (first
   | refine zka ?_
   | refine zkb ?_
   | (apply RKp.op; ((try simp (disch := (first | omega | exact zX | exact zO | fail)) only [go_sem, Nat.reduceDiv, Nat.reduceMod, Nat.reduceAdd, Nat.reduceSub, Nat.reduceEqDiff, Nat.reduceLeDiff, Nat.reduceLT, Nat.reduceMul, reduceIte, Nat.reducePow, Int.reduceEq]); exact zL); rfl)
   | refine zkc ?_
   | apply RKg.tt
   | apply RKg.ff
   | refine zkd ?_
   | refine zke ?_
   | refine zkf ?_
   | (refine RKg.split (fun h => ?_) (fun h => ?_) <;> (try rw [h]) <;> (replace h := zB h) <;> (try (exfalso; first | exact h | omega)))
   | apply RK.nil
   | apply V.sq
   | apply V.bl
   | apply V.sc
   | apply V.skip
   | apply V.label
   | apply V.ret
   | apply V.exit
   | apply SeqQ.normal
   | apply SeqQ.ret
   | apply SeqQ.exit
   | apply BlockQ.normal
   | apply BlockQ.ret
   | apply BlockQ.here
   | refine zbt ?_
   | apply LoopS.ret
   | apply LoopS.exit
   | apply LoopF.ret
   | apply LoopF.exit
   | apply V.regK
   | refine zvd ?_
   | refine zve ?_
   | (refine zvf (fun h => ?_) (fun h => ?_) <;> (replace h := zB h) <;> (try (exfalso; first | exact h | omega)))
    | (refine zfc Tryz.results10 ?_; (try dsimp only)))
  apply V.un
  repeat' (first
   | refine zka ?_
   | refine zkb ?_
   | (apply RKp.op; ((try simp (disch := (first | omega | exact zX | exact zO | fail)) only [gB5, go_sem, Nat.reduceDiv, Nat.reduceMod, Nat.reduceAdd, Nat.reduceSub, Nat.reduceEqDiff, Nat.reduceLeDiff, Nat.reduceLT, Nat.reduceMul, reduceIte, Nat.reducePow, Int.reduceEq]); exact zL); rfl)
   | (apply RKp.callE; (apply hD3 <;> (exact zD)); (intro x; rfl))
   | refine zkc ?_
   | apply RKg.tt
   | apply RKg.ff
   | refine zkd ?_
   | refine zke ?_
   | refine zkf ?_
   | (refine RKg.split (fun h => ?_) (fun h => ?_) <;> (try rw [h]) <;> (replace h := zB h) <;> (try (exfalso; first | exact h | omega)))
   | apply RK.nil
   | apply V.sq
   | apply V.bl
   | apply V.sc
   | apply V.skip
   | apply V.label
   | apply V.ret
   | apply V.exit
   | apply SeqQ.normal
   | apply SeqQ.ret
   | apply SeqQ.exit
   | apply BlockQ.normal
   | apply BlockQ.ret
   | apply BlockQ.here
   | refine zbt ?_
   | apply LoopS.ret
   | apply LoopS.exit
   | apply LoopF.ret
   | apply LoopF.exit
   | apply V.regK
   | refine zvd ?_
   | refine zve ?_
   | (refine zvf (fun h => ?_) (fun h => ?_) <;> (replace h := zB h) <;> (try (exfalso; first | exact h | omega)))
    | (refine zfc Tryz.results10 ?_; (try dsimp only)))
  rintro x H6 tr6 ⟨m6, e6, hS6, hF6, _⟩
  have g5 := hF6.nw; have g6 := hF6.next
  have hU6 := hU5.fr (T' := 0) (e' := 0) hF6 (by omega) (by omega) (by omega) (by omega)
  have hg6 := (hgX.csi 75 (a := [1]) (by simp)).1
  have p6 := hS6.mn
  have hD4 := fun ys => Do_none (ys := ys) hS6 hg6 75 (by omega)
  repeat' (first
   | refine zka ?_
   | refine zkb ?_
   | (apply RKp.op; ((try simp (disch := (first | omega | exact zX | exact zO | fail)) only [go_sem, Nat.reduceDiv, Nat.reduceMod, Nat.reduceAdd, Nat.reduceSub, Nat.reduceEqDiff, Nat.reduceLeDiff, Nat.reduceLT, Nat.reduceMul, reduceIte, Nat.reducePow, Int.reduceEq]); exact zL); rfl)
   | (apply RKp.callE; (apply hD4 <;> (exact zD)); (intro x; rfl))
   | refine zkc ?_
   | apply RKg.tt
   | apply RKg.ff
   | refine zkd ?_
   | refine zke ?_
   | refine zkf ?_
   | (refine RKg.split (fun h => ?_) (fun h => ?_) <;> (try rw [h]) <;> (replace h := zB h) <;> (try (exfalso; first | exact h | omega)))
   | apply RK.nil
   | apply V.sq
   | apply V.bl
   | apply V.sc
   | apply V.skip
   | apply V.label
   | apply V.ret
   | apply V.exit
   | apply SeqQ.normal
   | apply SeqQ.ret
   | apply SeqQ.exit
   | apply BlockQ.normal
   | apply BlockQ.ret
   | apply BlockQ.here
   | refine zbt ?_
   | apply LoopS.ret
   | apply LoopS.exit
   | apply LoopF.ret
   | apply LoopF.exit
   | apply V.regK
   | refine zvd ?_
   | refine zve ?_
   | (refine zvf (fun h => ?_) (fun h => ?_) <;> (replace h := zB h) <;> (try (exfalso; first | exact h | omega)))
    | (refine zfc Tryz.results10 ?_; (try dsimp only)))
  rintro x H7 tr7 ⟨m7, e7, hS7, hF7, _⟩
  have g7 := hF7.nw; have g8 := hF7.next
  have hU7 := hU6.fr (T' := 0) (e' := 0) hF7 (by omega) (by omega) (by omega) (by omega)
  have hg7 := (hg6.csi 75 (a := []) (by simp)).1
  have p7 := hS7.mn
  have hD5 := fun ys => Do_ints (ys := ys) hU7 hgX 75 (by omega) [2] (by simp) (by simp) (by simp) 1 rfl
  repeat' (first
   | refine zka ?_
   | refine zkb ?_
   | (apply RKp.op; ((try simp (disch := (first | omega | exact zX | exact zO | fail)) only [go_sem, Nat.reduceDiv, Nat.reduceMod, Nat.reduceAdd, Nat.reduceSub, Nat.reduceEqDiff, Nat.reduceLeDiff, Nat.reduceLT, Nat.reduceMul, reduceIte, Nat.reducePow, Int.reduceEq]); exact zL); rfl)
   | (apply RKp.callE; (apply hD5 <;> (exact zD)); (intro x; rfl))
   | refine zkc ?_
   | apply RKg.tt
   | apply RKg.ff
   | refine zkd ?_
   | refine zke ?_
   | refine zkf ?_
   | (refine RKg.split (fun h => ?_) (fun h => ?_) <;> (try rw [h]) <;> (replace h := zB h) <;> (try (exfalso; first | exact h | omega)))
   | apply RK.nil
   | apply V.sq
   | apply V.bl
   | apply V.sc
   | apply V.skip
   | apply V.label
   | apply V.ret
   | apply V.exit
   | apply SeqQ.normal
   | apply SeqQ.ret
   | apply SeqQ.exit
   | apply BlockQ.normal
   | apply BlockQ.ret
   | apply BlockQ.here
   | refine zbt ?_
   | apply LoopS.ret
   | apply LoopS.exit
   | apply LoopF.ret
   | apply LoopF.exit
   | apply V.regK
   | refine zvd ?_
   | refine zve ?_
   | (refine zvf (fun h => ?_) (fun h => ?_) <;> (replace h := zB h) <;> (try (exfalso; first | exact h | omega)))
    | (refine zfc Tryz.results10 ?_; (try dsimp only)))
  rintro x H8 tr8 ⟨m8, e8, hU8, hF8, _⟩
  have g9 := hF8.nw; have g10 := hF8.next
  have hS8 := hS7.fr (T' := 0) (e' := 0) hF8 (by omega) (by omega) (by omega) (by omega)
  have hg8 := (hgX.csi 75 (a := [2]) (by simp)).1
  have hcol : X1.col = c % 8 := by rw [hX1]
  have hcw : X1.col < X1.w := by have h8 : X1.w = 8 := gwX.trans gw; omega
  have z1 : X1.csi 75 [1] = X1.clr 1 false := by
    have : min X1.col (X1.w - 1) = X1.col := by omega
    simp [Sc.csi, isCsi, argI, this]
  have z2 : (X1.clr 1 false).csi 75 [] = (X1.clr 1 false).clr 0 false := by
    have : min X1.col (X1.w - 1) = X1.col := by omega
    simp [Sc.csi, isCsi, argI, Sc.clr, this]
  have z3 : X1.csi 75 [2] = X1.clr 2 false := by
    have : min X1.col (X1.w - 1) = X1.col := by omega
    simp [Sc.csi, isCsi, argI, this]
  rw [z1, z2] at hS8 hg7
  rw [z3] at hU8 hg8
  have hre := erase_alike hgX hcw
  have hrS := fun ys => Rows_run (ys := ys) (lo := 0) hS8 hg7
  have hrU := fun ys => Rows_run (ys := ys) (lo := 0) hU8 hg8
  have hcS := fun ys => Cursor_run (ys := ys) (lo := 0) hS8
  have hcU := fun ys => Cursor_run (ys := ys) (lo := 0) hU8
  have w3 := hgX.w3; have hh2 := hgX.h2; have hln := hgX.len
  have heq : ∀ ys G, CallRo EZ ys 0 42 [.sl 2 (rowsA ((X1.clr 1 false).clr 0 false).rows), .sl 2 (rowsA (X1.clr 2 false).rows)] G (.v (.bool true)) := fun ys G => by
    have := EqRows_run (ys := ys) (lo := 0) (H := G) (A := .sl 2 (rowsA ((X1.clr 1 false).clr 0 false).rows)) (B := .sl 2 (rowsA (X1.clr 2 false).rows)) (.inl (.inl rfl)) (.inl (.inl rfl)) (by rw [clr_len, clr_len]; omega) (by rw [clr_len]; omega) (fun r hr => by have := (hg7.rw r hr).2.2; have h' : ((X1.clr 1 false).clr 0 false).w = X1.w := rfl; omega) (fun r hr => by have := (hg8.rw r hr).2.2; have h' : (X1.clr 2 false).w = X1.w := rfl; omega)
    rwa [decide_eq_true hre] at this
  repeat' (first
   | refine zka ?_
   | refine zkb ?_
   | (apply RKp.op; ((try simp (disch := (first | omega | exact zX | exact zO | fail)) only [go_sem, Nat.reduceDiv, Nat.reduceMod, Nat.reduceAdd, Nat.reduceSub, Nat.reduceEqDiff, Nat.reduceLeDiff, Nat.reduceLT, Nat.reduceMul, reduceIte, Nat.reducePow, Int.reduceEq]); exact zL); rfl)
   | (apply RKp.callR; ((first | apply hrS | apply hrU | apply hcS | apply hcU | apply heq) <;> (exact zD)); rfl; intro tr htr)
   | refine zkc ?_
   | apply RKg.tt
   | apply RKg.ff
   | refine zkd ?_
   | refine zke ?_
   | refine zkf ?_
   | (refine RKg.split (fun h => ?_) (fun h => ?_) <;> (try rw [h]) <;> (replace h := zB h) <;> (try (exfalso; first | exact h | omega)))
   | apply RK.nil
   | apply V.sq
   | apply V.bl
   | apply V.sc
   | apply V.skip
   | apply V.label
   | apply V.ret
   | apply V.exit
   | apply SeqQ.normal
   | apply SeqQ.ret
   | apply SeqQ.exit
   | apply BlockQ.normal
   | apply BlockQ.ret
   | apply BlockQ.here
   | refine zbt ?_
   | apply LoopS.ret
   | apply LoopS.exit
   | apply LoopF.ret
   | apply LoopF.exit
   | apply V.regK
   | refine zvd ?_
   | refine zve ?_
   | (refine zvf (fun h => ?_) (fun h => ?_) <;> (replace h := zB h) <;> (try (exfalso; first | exact h | omega)))
    | (refine zfc Tryz.results10 ?_; (try dsimp only)))
  show AV.v (.bool ((X1.row == X1.row && X1.col == X1.col) != false)) = _
  simp
theorem ScreenErase_run (str : ByteArray) (hs : str.size ≤ maxLen) (c : Int) (hc : (Lit.int .i64 c).wf = true) : WC EZ [] 0 10 [.v (.string str), .v (.int .i64 c)] .empty fun x _ => x = .v (.bool true) := ScreenErase_law str hs c (i64_wf hc)
end Go.Am
