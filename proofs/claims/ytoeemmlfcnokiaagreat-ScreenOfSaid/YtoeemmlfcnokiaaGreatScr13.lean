/- ScreenAll: any events on a screen of any size. -/
import Derived.Test.YtoeemmlfcnokiaaGreatScr9
import Derived.Test.YtoeemmlfcnokiaaGreatScr10
import Derived.Test.YtoeemmlfcnokiaaGreatScr12
import Derived.Test.YtoeemmlfcnokiaaGreatAmF
set_option linter.all false
set_option linter.deprecated false
namespace Go.Am
open Go.Proofs
set_option maxRecDepth 8000
set_option maxHeartbeats 4000000
/-- An event's cells. -/
def EvC (c : List AV) : Prop := ∃ (k r : Int) (A : AV) (a : List Int) (t : ByteArray), c = [.v (.int .i64 k), .v (.int .i32 r), A, .v (.string t)] ∧ (-2147483648 ≤ r ∧ r ≤ 2147483647) ∧ Sl 1 A (ints a) ∧ a.length < 2 ^ 63
theorem wd_intsE {d : Nat} {es : List (List AV)} (h : ∀ c ∈ es, Wd Tryz.prog (d + 1) 3 c) : ∃ a : List Int, es = ints a := by
  induction es with
  | nil => exact ⟨[], rfl⟩
  | cons c r ih =>
    have h0 := h c List.mem_cons_self
    simp only [Wd, Tryz.underlying3] at h0
    obtain ⟨x, rfl, _⟩ := h0
    obtain ⟨l, rfl⟩ := ih fun c hc => h c (List.mem_cons_of_mem _ hc)
    exact ⟨x :: l, rfl⟩
theorem wd_ints {d : Nat} {u : List AV} (h : Wd Tryz.prog (d + 2) 25 u) : ∃ (A : AV) (a : List Int), u = [A] ∧ Sl 1 A (ints a) ∧ a.length < 2 ^ 63 := by
  unfold Wd at h
  rw [Tryz.underlying25] at h
  obtain ⟨x, es, rfl, hs, hlen, he⟩ := h
  obtain ⟨a, rfl⟩ := wd_intsE he
  have hc3 : Tryz.prog.cellsOf 3 = 1 := by kernel_rfl
  rw [hc3] at hs
  rw [ints_len] at hlen
  exact ⟨x, a, rfl, hs, by unfold maxLen at hlen; omega⟩
theorem wd_event {d : Nat} {u : List AV} (h : Wd Tryz.prog (d + 4) 35 u) : EvC u := by
  unfold Wd at h
  rw [Tryz.underlying35] at h
  obtain ⟨parts, rfl, hl, hp⟩ := h
  match parts, hl with
  | [p0, p1, p2, p3], _ =>
    have h0 : Wd Tryz.prog (d + 3) 3 p0 := hp 0 _ p0 rfl rfl
    have h1 : Wd Tryz.prog (d + 3) 21 p1 := hp 1 _ p1 rfl rfl
    have h2 : Wd Tryz.prog (d + 3) 25 p2 := hp 2 _ p2 rfl rfl
    have h3 : Wd Tryz.prog (d + 3) 9 p3 := hp 3 _ p3 rfl rfl
    simp only [Wd, Tryz.underlying3, Tryz.underlying21, Tryz.underlying9] at h0 h1 h3
    obtain ⟨k, rfl, _⟩ := h0
    obtain ⟨r, rfl, hr⟩ := h1
    obtain ⟨t, rfl, _⟩ := h3
    obtain ⟨A, a, rfl, hA, ha⟩ := wd_ints (d := d + 1) h2
    exact ⟨k, r, A, a, t, rfl, i32_wf hr, hA, ha⟩
theorem wd_events {d : Nat} {u : List AV} (h : Wd Tryz.prog (d + 5) 32 u) : ∃ (L : AV) (es : List (List AV)), u = [L] ∧ Sl 4 L es ∧ es.length < 2 ^ 63 ∧ ∀ j, j < es.length → EvC (nth [] es j) := by
  unfold Wd at h
  rw [Tryz.underlying32] at h
  obtain ⟨x, es, rfl, hs, hlen, he⟩ := h
  have hc3 : Tryz.prog.cellsOf 35 = 4 := by kernel_rfl
  rw [hc3] at hs
  refine ⟨x, es, rfl, hs, by unfold maxLen at hlen; omega, fun j hj => ?_⟩
  rw [nth_getD]
  exact wd_event (he _ (by rw [List.getD_eq_getElem?_getD, List.getElem?_eq_getElem hj]; exact List.getElem_mem hj))
theorem ev_out (s : Sc) (k r : Int) (a : List Int) : (s.ev k r a).2.length ≤ 1 := by
  have hd : ∀ t : Sc, t.dn.2.length ≤ 1 := fun t => by unfold Sc.dn; split <;> simp
  unfold Sc.ev Sc.pr Sc.ctl Sc.wrapped
  (repeat' split) <;> first | (simp; done) | exact hd _
theorem Sl.noname {sz k : Nat} {x : AV} {es : List (List AV)} (h : Sl sz x es) (hk : nameOf x k) : False := by
  obtain ⟨e, off, len, rfl⟩ := hk
  rcases h with h | ⟨_, h | h⟩ <;> cases h
theorem rows_bd {w : Int} {l : List Rw} (h : ∀ r ∈ l, RwG w r) (w3 : w ≤ 300) : ∀ r ∈ l, r.1.length < 2 ^ 40 := fun r hr => by
  have := (h r hr).2.2; omega
section
variable {L : AV} {es : List (List AV)}
theorem ScreenAll_law (hL : Sl 4 L es) (hlen : es.length < 2 ^ 63) (hE : ∀ j, j < es.length → EvC (nth [] es j)) (w ht : Int) : WC EZ [] 0 12 [.v (.int .i64 w), .v (.int .i64 ht), L] .empty fun x _ => x = .v (.bool true) := by
  have lnL : ∀ G, primL 0 G (builtinA EZ .len #[32] 3 [L]) = some (.v (.int .i64 es.length), G, rdTr L) := fun G => len_SlH EZ 0 32 3 (.inl hL) (by kernel_rfl)
  have hNew := fun ys G w h => New_E (ys := ys) (lo := 0) (H := G) w h
  have hRNew := fun ys G w h => rNew_E (ys := ys) (lo := 0) (H := G) w h
  refine zvin Tryz.func12 Tryz.ntmps12 ?_
  repeat' (first
   | refine zka ?_
   | refine zkb ?_
   | (apply RKp.op; ((try simp (disch := (first | omega | exact zX | exact zO | fail)) only [go_sem, Nat.reduceDiv, Nat.reduceMod, Nat.reduceAdd, Nat.reduceSub, Nat.reduceEqDiff, Nat.reduceLeDiff, Nat.reduceLT, Nat.reduceMul, reduceIte, Nat.reducePow, Int.reduceEq]); exact zL); rfl)
   | (apply RKp.call; (apply begun_R <;> (exact zD)); rfl)
   | (apply RKp.callE; (apply hNew <;> (exact zD)); (intro x; rfl))
   | refine zkc ?_
   | apply RKg.tt
   | apply RKg.ff
   | refine zkd ?_
   | refine zke ?_
   | refine zkf ?_
   | (refine RKg.split (fun h => ?_) (fun h => ?_) <;> (try rw [h]) <;> (replace h := zB h) <;> (try (exfalso; first | exact h | omega)))
   | apply RK.nil
   | apply V.sq
   | apply V.bl
   | apply V.sc
   | apply V.skip
   | apply V.label
   | apply V.ret
   | apply V.exit
   | apply SeqQ.normal
   | apply SeqQ.ret
   | apply SeqQ.exit
   | apply BlockQ.normal
   | apply BlockQ.ret
   | apply BlockQ.here
   | refine zbt ?_
   | apply LoopS.ret
   | apply LoopS.exit
   | apply LoopF.ret
   | apply LoopF.exit
   | apply V.regK
   | refine zvd ?_
   | refine zve ?_
   | (refine zvf (fun h => ?_) (fun h => ?_) <;> (replace h := zB h) <;> (try (exfalso; first | exact h | omega)))
    | (refine zfc Tryz.results12 ?_; (try dsimp only)))
  all_goals
    rintro x H1 tr ⟨n, m0, rfl, hS0, b1, b2, hx1⟩
    repeat' (first
     | refine zka ?_
     | refine zkb ?_
     | (apply RKp.op; ((try simp (disch := (first | omega | exact zX | exact zO | fail)) only [go_sem, Nat.reduceDiv, Nat.reduceMod, Nat.reduceAdd, Nat.reduceSub, Nat.reduceEqDiff, Nat.reduceLeDiff, Nat.reduceLT, Nat.reduceMul, reduceIte, Nat.reducePow, Int.reduceEq]); exact zL); rfl)
     | (apply RKp.callE; (apply hRNew <;> (exact zD)); (intro x; rfl))
     | refine zkc ?_
     | apply RKg.tt
     | apply RKg.ff
     | refine zkd ?_
     | refine zke ?_
     | refine zkf ?_
     | (refine RKg.split (fun h => ?_) (fun h => ?_) <;> (try rw [h]) <;> (replace h := zB h) <;> (try (exfalso; first | exact h | omega)))
     | apply RK.nil
     | apply V.sq
     | apply V.bl
     | apply V.sc
     | apply V.skip
     | apply V.label
     | apply V.ret
     | apply V.exit
     | apply SeqQ.normal
     | apply SeqQ.ret
     | apply SeqQ.exit
     | apply BlockQ.normal
     | apply BlockQ.ret
     | apply BlockQ.here
     | refine zbt ?_
     | apply LoopS.ret
     | apply LoopS.exit
     | apply LoopF.ret
     | apply LoopF.exit
     | apply V.regK
     | refine zvd ?_
     | refine zve ?_
     | (refine zvf (fun h => ?_) (fun h => ?_) <;> (replace h := zB h) <;> (try (exfalso; first | exact h | omega)))
      | (refine zfc Tryz.results12 ?_; (try dsimp only)))
    rintro x H1' tr' ⟨n', m0', rfl, hR0, b3, b4, hx2⟩
    have b5 := hS0.nn; have b6 := hS0.mn; have b7 := hR0.ne; have b8 := hS0.ne
    replace hS0 := hS0.ext hx2
    repeat' (first
     | refine zka ?_
     | refine zkb ?_
     | (apply RKp.op; ((try simp (disch := (first | omega | exact zX | exact zO | fail)) only [go_sem, Nat.reduceDiv, Nat.reduceMod, Nat.reduceAdd, Nat.reduceSub, Nat.reduceEqDiff, Nat.reduceLeDiff, Nat.reduceLT, Nat.reduceMul, reduceIte, Nat.reducePow, Int.reduceEq]); exact zL); rfl)
     | refine zkc ?_
     | apply RKg.tt
     | apply RKg.ff
     | refine zkd ?_
     | refine zke ?_
     | refine zkf ?_
     | (refine RKg.split (fun h => ?_) (fun h => ?_) <;> (try rw [h]) <;> (replace h := zB h) <;> (try (exfalso; first | exact h | omega)))
     | apply RK.nil
     | apply V.sq
     | apply V.bl
     | apply V.sc
     | apply V.skip
     | apply V.label
     | apply V.ret
     | apply V.exit
     | apply SeqQ.normal
     | apply SeqQ.ret
     | apply SeqQ.exit
     | apply BlockQ.normal
     | apply BlockQ.ret
     | apply BlockQ.here
     | refine zbt ?_
     | apply LoopS.ret
     | apply LoopS.exit
     | apply LoopF.ret
     | apply LoopF.exit
     | apply V.regK
     | refine zvd ?_
     | refine zve ?_
     | (refine zvf (fun h => ?_) (fun h => ?_) <;> (replace h := zB h) <;> (try (exfalso; first | exact h | omega)))
      | (refine zfc Tryz.results12 ?_; (try dsimp only)))
    apply V.lpS [10, 6, 11, 12, 13, 27, 28, 29, 30, 31, 32, 33, 34, 35, 36, 37, 38, 39, 40, 41, 42, 43, 44, 45, 46, 47, 48, 49, 50, 51, 52, 53, 54, 55, 56, 57, 58, 59, 60, 61, 62, 63, 64, 65, 66, 67, 68, 69, 70, 71, 72, 73, 74, 75, 76, 77, 78, 79, 80, 81, 82, 83, 84] (fun k xs H2 => ∃ (i : Nat) (g : _) (m e m' e' : Nat) (s : Sc), xs = .v (.int .i64 i) :: g ∧ k = es.length - i ∧ i ≤ es.length ∧ SP 108 0 H2 n m e s ∧ SP 110 0 H2 n' m' e' s ∧ m ≠ n' ∧ m' ≠ n ∧ m ≠ m' ∧ ScG s) es.length
    focus (intro xs; simp only [putMany, set2, Nat.reduceAdd, Nat.reduceDiv, Nat.reduceMod, nth_zero, nth_succ, List.set_cons_zero, List.set_cons_succ]; rfl)
    focus (first | rfl | simp only [readMany, nth_zero, nth_succ, Nat.reduceDiv, Nat.reduceMod])
    · exact ⟨0, _, m0, 0, m0', 0, _, rfl, rfl, Nat.zero_le _, hS0, hR0, by omega, by omega, by omega, ScG.new2 _ _⟩
    · rintro k xs H2 ⟨i, g, m, e, m', e', s, rfl, rfl, hi, hS, hR, n1, n2, n3, hg⟩
      by_cases hlt : i < es.length
      · obtain ⟨kk, r, A, a, t, e1, hr, hA, ha⟩ := hE i hlt
        have ixE : ∀ G, primL 0 G (indexAddrA EZ 32 L (.v (.int .i64 (i : Int)))) = some (ixA L es i, G, rdTr L) := fun G => ix_SlH EZ 0 32 .i64 (i : Int) (.inl hL) (by kernel_rfl) (by omega) (by omega)
        have ldE : ∀ G, primL 0 G (loadA EZ 35 (ixA L es i)) = some (.agg [.v (.int .i64 kk), .v (.int .i32 r), A, .v (.string t)], G, rdTr L) := fun G => by
          rw [load_SlH EZ 0 35 i (.inl hL) hlt, e1]; rfl
        have hct : cellsOf A = some [A] := cells_SlH (H := .empty) (.inl hA)
        have lnA := fun G => len_intX 0 (H0 := G) (.inl hA) G (Ext.refl G)
        have hk : (min (a.length : Int) 10).toNat = min a.length 10 := by omega
        have slA : ∀ G, primL 0 G (sliceA EZ 25 A none (some (.v (.int .i64 (min (a.length : Int) 10)))) none) = some (cutA A 0 (min a.length 10), G, rdTr A) := fun G => by
          have := slice_SlH EZ 0 (t := 25) (H := G) (by kernel_rfl) (.inl hA) none (some (.v (.int .i64 (min (a.length : Int) 10)))) (bound_none 0) (bound_some .i64 _ _ (by omega)) (Nat.zero_le _) (by rw [ints_len]; omega)
          rw [hk] at this; exact this
        have hB : Sl 1 (cutA A 0 (min a.length 10)) (ints (a.take (min a.length 10))) := by
          have := cutA_Sl (lo := 0) (hi := min a.length 10) hA
          rw [List.drop_zero, Nat.sub_zero] at this
          unfold ints at this ⊢
          rw [List.map_take]; exact this
        have hbl : (a.take (min a.length 10)).length < 2 ^ 40 := by rw [List.length_take]; omega
        generalize a.take (min a.length 10) = b at *
        generalize hBe : cutA A 0 (min a.length 10) = B at *
        have hcB : cellsOf B = some [B] := cells_SlH (H := .empty) (.inl hB)
        have lnB := fun G => len_intX 0 (H0 := G) (.inl hB) G (Ext.refl G)
        repeat' (first
         | refine zka ?_
         | refine zkb ?_
         | (apply RKp.op; ((try simp (disch := (first | omega | exact zX | exact zO | fail)) only [lnL, ixE, ldE, hct, lnA, slA, hcB, go_sem, Nat.reduceDiv, Nat.reduceMod, Nat.reduceAdd, Nat.reduceSub, Nat.reduceEqDiff, Nat.reduceLeDiff, Nat.reduceLT, Nat.reduceMul, reduceIte, Nat.reducePow, Int.reduceEq]); exact zL); rfl)
         | refine zkc ?_
         | apply RKg.tt
         | apply RKg.ff
         | refine zkd ?_
         | refine zke ?_
         | refine zkf ?_
         | (refine RKg.split (fun h => ?_) (fun h => ?_) <;> (try rw [h]) <;> (replace h := zB h) <;> (try (exfalso; first | exact h | omega)))
         | apply RK.nil
         | apply V.sq
         | apply V.bl
         | apply V.sc
         | apply V.skip
         | apply V.label
         | apply V.ret
         | apply V.exit
         | apply SeqQ.normal
         | apply SeqQ.ret
         | apply SeqQ.exit
         | apply BlockQ.normal
         | apply BlockQ.ret
         | apply BlockQ.here
         | refine zbt ?_
         | apply LoopS.ret
         | apply LoopS.exit
         | apply LoopF.ret
         | apply LoopF.exit
         | apply V.regK
         | refine zvd ?_
         | refine zve ?_
         | (refine zvf (fun h => ?_) (fun h => ?_) <;> (replace h := zB h) <;> (try (exfalso; first | exact h | omega)))
          | (refine zfc Tryz.results12 ?_; (try dsimp only)))
        apply V.lpF [12, 6, 49, 50, 51, 52, 53, 54, 55, 56, 57, 58, 59, 60, 61, 62, 63, 64, 65, 66, 67, 68, 69] (fun k xs => ∃ (j : Nat) (g : _), xs = .v (.int .i64 j) :: g ∧ k = b.length - j ∧ j ≤ b.length ∧ ∀ q, q < j → 0 ≤ b.getD q 0 ∧ b.getD q 0 ≤ 9999) b.length
        focus (intro xs; simp only [putMany, set2, Nat.reduceAdd, Nat.reduceDiv, Nat.reduceMod, nth_zero, nth_succ, List.set_cons_zero, List.set_cons_succ]; rfl)
        focus (first | rfl | simp only [readMany, nth_zero, nth_succ, Nat.reduceDiv, Nat.reduceMod])
        · exact ⟨0, _, rfl, rfl, Nat.zero_le _, fun q hq => absurd hq (Nat.not_lt_zero _)⟩
        · rintro k xs ⟨j, g, rfl, rfl, hj, hst⟩
          have ixB := fun G => ix_intX 0 (H0 := G) (.inl hB) G (Ext.refl G)
          have ldB := fun G => ld_intX 0 (H0 := G) (.inl hB) G (Ext.refl G)
          by_cases hjl : j < b.length
          · repeat' (first
             | refine zka ?_
             | refine zkb ?_
             | (apply RKp.op; ((try simp (disch := (first | omega | exact zX | exact zO | fail)) only [lnB, ixB, ldB, Int.toNat_natCast, go_sem, Nat.reduceDiv, Nat.reduceMod, Nat.reduceAdd, Nat.reduceSub, Nat.reduceEqDiff, Nat.reduceLeDiff, Nat.reduceLT, Nat.reduceMul, reduceIte, Nat.reducePow, Int.reduceEq]); exact zL); rfl)
             | refine zkc ?_
             | apply RKg.tt
             | apply RKg.ff
             | refine zkd ?_
             | refine zke ?_
             | refine zkf ?_
             | (refine RKg.split (fun h => ?_) (fun h => ?_) <;> (try rw [h]) <;> (replace h := zB h) <;> (try (exfalso; first | exact h | omega)))
             | apply RK.nil
             | apply V.sq
             | apply V.bl
             | apply V.sc
             | apply V.skip
             | apply V.label
             | apply V.ret
             | apply V.exit
             | apply SeqQ.normal
             | apply SeqQ.ret
             | apply SeqQ.exit
             | apply BlockQ.normal
             | apply BlockQ.ret
             | apply BlockQ.here
             | refine zbt ?_
             | apply LoopS.ret
             | apply LoopS.exit
             | apply LoopF.ret
             | apply LoopF.exit
             | apply V.regK
             | refine zvd ?_
             | refine zve ?_
             | (refine zvf (fun h => ?_) (fun h => ?_) <;> (replace h := zB h) <;> (try (exfalso; first | exact h | omega)))
              | (refine zfc Tryz.results12 ?_; (try dsimp only)))
            exact LoopF.again (b.length - (j + 1)) (by rfl) (by omega) ⟨j + 1, _, rfl, rfl, by omega, fun q hq => by
              rcases Nat.lt_succ_iff_lt_or_eq.1 hq with hq | rfl
              · exact hst q hq
              · omega⟩
          · have hq : ∀ x ∈ b, 0 ≤ x ∧ x ≤ 9999 := fun x hx => by
              obtain ⟨q, hq, rfl⟩ := List.mem_iff_getElem.1 hx
              have := hst q (by omega)
              rwa [List.getD_eq_getElem?_getD, List.getElem?_eq_getElem hq] at this
            have hDo := fun ys => Do_run (ys := ys) (hS.ext ((Ext.refl _).push (evk kk r B t))) hg kk r hr t (.inl hB) (fun k hk => (hB.noname hk).elim) hbl hq
            repeat' (first
             | refine zka ?_
             | refine zkb ?_
             | (apply RKp.op; ((try simp (disch := (first | omega | exact zX | exact zO | fail)) only [lnB, go_sem, Nat.reduceDiv, Nat.reduceMod, Nat.reduceAdd, Nat.reduceSub, Nat.reduceEqDiff, Nat.reduceLeDiff, Nat.reduceLT, Nat.reduceMul, reduceIte, Nat.reducePow, Int.reduceEq]); exact zL); rfl)
             | (apply RKp.callE; (apply hDo <;> (exact zD)); (intro x; rfl))
             | refine zkc ?_
             | apply RKg.tt
             | apply RKg.ff
             | refine zkd ?_
             | refine zke ?_
             | refine zkf ?_
             | (refine RKg.split (fun h => ?_) (fun h => ?_) <;> (try rw [h]) <;> (replace h := zB h) <;> (try (exfalso; first | exact h | omega)))
             | apply RK.nil
             | apply V.sq
             | apply V.bl
             | apply V.sc
             | apply V.skip
             | apply V.label
             | apply V.ret
             | apply V.exit
             | apply SeqQ.normal
             | apply SeqQ.ret
             | apply SeqQ.exit
             | apply BlockQ.normal
             | apply BlockQ.ret
             | apply BlockQ.here
             | refine zbt ?_
             | apply LoopS.ret
             | apply LoopS.exit
             | apply LoopF.ret
             | apply LoopF.exit
             | apply V.regK
             | refine zvd ?_
             | refine zve ?_
             | (refine zvf (fun h => ?_) (fun h => ?_) <;> (replace h := zB h) <;> (try (exfalso; first | exact h | omega)))
              | (refine zfc Tryz.results12 ?_; (try dsimp only)))
            rintro x1 H3 tr1 ⟨m1, e1, hS1, hF1, hO1⟩
            have ⟨hg1, hw1, _, _⟩ := hg.ev kk r hr (fun x hx => (hq x hx).1)
            have ho1 := ev_out s kk r b
            have a1 := hS.nn; have a2 := hS.mn; have a3 := hR.nn; have a4 := hR.mn; have a5 := hS.ne; have a6 := hR.ne
            have f1 := hF1.nw; have f2 := hF1.next
            rw [next_push] at f1 f2
            have gE : H3.get H2.next = some (evk kk r B t) := by rw [hF1.keep _ (by (first | omega | (simp only [next_push, next_set, next_empty]; done) | (simp only [next_push, next_set, next_empty]; omega))) (by omega) (by omega), get_push, if_pos rfl]
            have hR1 := (hR.ext ((Ext.refl _).push (evk kk r B t))).fr (T' := 0) (e' := 0) hF1 (by omega) (by omega) (by omega) (by omega)
            have hRDo := fun ys => rDo_run (ys := ys) hR1 hg kk r hr t (.inl hB) (fun k hk => (hB.noname hk).elim) hbl hq
            generalize hst' : s.ev kk r b = se at *
            obtain ⟨s1, out⟩ := se
            dsimp only at *
            repeat' (first
             | refine zka ?_
             | refine zkb ?_
             | (apply RKp.op; ((try simp (disch := (first | omega | exact zX | exact zO | fail)) only [gE, go_sem, Nat.reduceDiv, Nat.reduceMod, Nat.reduceAdd, Nat.reduceSub, Nat.reduceEqDiff, Nat.reduceLeDiff, Nat.reduceLT, Nat.reduceMul, reduceIte, Nat.reducePow, Int.reduceEq]); exact zL); rfl)
             | (apply RKp.callE; (apply hRDo <;> (exact zD)); (intro x; rfl))
             | refine zkc ?_
             | apply RKg.tt
             | apply RKg.ff
             | refine zkd ?_
             | refine zke ?_
             | refine zkf ?_
             | (refine RKg.split (fun h => ?_) (fun h => ?_) <;> (try rw [h]) <;> (replace h := zB h) <;> (try (exfalso; first | exact h | omega)))
             | apply RK.nil
             | apply V.sq
             | apply V.bl
             | apply V.sc
             | apply V.skip
             | apply V.label
             | apply V.ret
             | apply V.exit
             | apply SeqQ.normal
             | apply SeqQ.ret
             | apply SeqQ.exit
             | apply BlockQ.normal
             | apply BlockQ.ret
             | apply BlockQ.here
             | refine zbt ?_
             | apply LoopS.ret
             | apply LoopS.exit
             | apply LoopF.ret
             | apply LoopF.exit
             | apply V.regK
             | refine zvd ?_
             | refine zve ?_
             | (refine zvf (fun h => ?_) (fun h => ?_) <;> (replace h := zB h) <;> (try (exfalso; first | exact h | omega)))
              | (refine zfc Tryz.results12 ?_; (try dsimp only)))
            rintro x2 H4 tr2 ⟨m2, e2, hR2, hF2, hO2⟩
            have f3 := hF2.nw; have f4 := hF2.next; have a7 := hS1.mn
            have hS2 := hS1.fr (T' := 0) (e' := 0) hF2 (by omega) (by omega) (by omega) (by omega)
            have hx1 := hF2.ext hO1.sl (fun k hk => by have := hO1.nw k hk; rw [next_push] at this; omega)
            have heq : ∀ ys lo, CallRo EZ ys lo 42 [x1, x2] H4 (.v (.bool true)) := fun ys lo => by
              simpa using EqRows_run (ys := ys) (lo := lo) (H := H4) hx1 hO2.sl (by omega) (by omega) (rows_bd hw1 hg.w3) (rows_bd hw1 hg.w3)
            have hsame := fun ys lo => same_run (ys := ys) (lo := lo) hS2 hR2 hg1
            repeat' (first
             | refine zka ?_
             | refine zkb ?_
             | (apply RKp.op; ((try simp (disch := (first | omega | exact zX | exact zO | fail)) only [go_sem, Nat.reduceDiv, Nat.reduceMod, Nat.reduceAdd, Nat.reduceSub, Nat.reduceEqDiff, Nat.reduceLeDiff, Nat.reduceLT, Nat.reduceMul, reduceIte, Nat.reducePow, Int.reduceEq]); exact zL); rfl)
             | (apply RKp.callR; ((first | apply heq | apply hsame) <;> (exact zD)); rfl; intro tr htr)
             | refine zkc ?_
             | apply RKg.tt
             | apply RKg.ff
             | refine zkd ?_
             | refine zke ?_
             | refine zkf ?_
             | (refine RKg.split (fun h => ?_) (fun h => ?_) <;> (try rw [h]) <;> (replace h := zB h) <;> (try (exfalso; first | exact h | omega)))
             | apply RK.nil
             | apply V.sq
             | apply V.bl
             | apply V.sc
             | apply V.skip
             | apply V.label
             | apply V.ret
             | apply V.exit
             | apply SeqQ.normal
             | apply SeqQ.ret
             | apply SeqQ.exit
             | apply BlockQ.normal
             | apply BlockQ.ret
             | apply BlockQ.here
             | refine zbt ?_
             | apply LoopS.ret
             | apply LoopS.exit
             | apply LoopF.ret
             | apply LoopF.exit
             | apply V.regK
             | refine zvd ?_
             | refine zve ?_
             | (refine zvf (fun h => ?_) (fun h => ?_) <;> (replace h := zB h) <;> (try (exfalso; first | exact h | omega)))
              | (refine zfc Tryz.results12 ?_; (try dsimp only)))
            exact LoopS.again (es.length - (i + 1)) (by rfl) (by omega) ⟨i + 1, _, m1, e1, m2, e2, s1, rfl, rfl, by omega, hS2, hR2, by omega, by omega, by omega, hg1⟩
      · repeat' (first
         | refine zka ?_
         | refine zkb ?_
         | (apply RKp.op; ((try simp (disch := (first | omega | exact zX | exact zO | fail)) only [lnL, go_sem, Nat.reduceDiv, Nat.reduceMod, Nat.reduceAdd, Nat.reduceSub, Nat.reduceEqDiff, Nat.reduceLeDiff, Nat.reduceLT, Nat.reduceMul, reduceIte, Nat.reducePow, Int.reduceEq]); exact zL); rfl)
         | refine zkc ?_
         | apply RKg.tt
         | apply RKg.ff
         | refine zkd ?_
         | refine zke ?_
         | refine zkf ?_
         | (refine RKg.split (fun h => ?_) (fun h => ?_) <;> (try rw [h]) <;> (replace h := zB h) <;> (try (exfalso; first | exact h | omega)))
         | apply RK.nil
         | apply V.sq
         | apply V.bl
         | apply V.sc
         | apply V.skip
         | apply V.label
         | apply V.ret
         | apply V.exit
         | apply SeqQ.normal
         | apply SeqQ.ret
         | apply SeqQ.exit
         | apply BlockQ.normal
         | apply BlockQ.ret
         | apply BlockQ.here
         | refine zbt ?_
         | apply LoopS.ret
         | apply LoopS.exit
         | apply LoopF.ret
         | apply LoopF.exit
         | apply V.regK
         | refine zvd ?_
         | refine zve ?_
         | (refine zvf (fun h => ?_) (fun h => ?_) <;> (replace h := zB h) <;> (try (exfalso; first | exact h | omega)))
          | (refine zfc Tryz.results12 ?_; (try dsimp only)))
theorem ScreenAll_run (w : Int) (hw : (Lit.int .i64 w).wf = true) (ht : Int) (hh : (Lit.int .i64 ht).wf = true) (v : List AV) (hv : Wd Tryz.prog 6 32 v) : WC EZ [] 0 12 [.v (.int .i64 w), .v (.int .i64 ht), v.getD 0 .dead] .empty fun x _ => x = .v (.bool true) := by
  obtain ⟨L, es, rfl, hL, hlen, hE⟩ := wd_events (d := 1) hv
  exact ScreenAll_law hL hlen hE w ht
end
end Go.Am
