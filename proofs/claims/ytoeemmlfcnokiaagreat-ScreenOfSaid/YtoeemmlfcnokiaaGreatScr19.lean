/- ScreenOf: a screen of any rows, of any size, with any cursor. -/
import Derived.Test.YtoeemmlfcnokiaaGreatScr18
import Derived.Test.YtoeemmlfcnokiaaGreatScr9
import Derived.Test.YtoeemmlfcnokiaaGreatScr10
import Derived.Test.YtoeemmlfcnokiaaGreatScr13
set_option linter.all false
set_option linter.deprecated false
namespace Go.Am
open Go.Proofs
set_option maxRecDepth 8000
set_option maxHeartbeats 1000000
/-- A call that hands new blocks over, of whose result P holds. -/
def CallNE (E : Env) (ys : List (Nat × LRec)) (lo : Nat) (f : FuncId) (args : List AV) (H : AHeap) (P : AV → AHeap → Prop) : Prop := ∃ x H' tr, NcT H.next tr ∧ CallR E ys lo f args H x H' tr ∧ P x H'
theorem RKp.callNE {E : Env} {ys : List (Nat × LRec)} {lo : Nat} {f : FuncId} {args : List AV} {H : AHeap} {ops rest : List Oper} {o : Oper} {acc : List Tr} {K : St → List Tr → Prop} {tm : Slots} {P : AV → AHeap → Prop} {tmf : AV → Slots} (hc : CallNE E ys lo f args H P) (hs : ∀ x, putS tm o.dst x some = some (tmf x)) (hk : ∀ x H' tr, NcT H.next tr → P x H' → RK E ys lo ops rest ⟨tmf x, H'⟩ (tr :: acc) K) : RKp E ys lo ops o rest tm H acc K (.call f args) := by
  obtain ⟨x, H', tr, h1, h2, h3⟩ := hc
  exact RKp.call h2 (hs x) (hk x H' tr h1 h3)
theorem scr_NE {ys : List (Nat × LRec)} {lo : Nat} {H : AHeap} {f : FuncId} {args : List AV} {T : Nat} {s : Sc} (h : CallN EZ ys lo f args H (.op H.next 0 0 0) ((H.push ⟨T, 6, 0, [[.v (.int .i64 s.w), .v (.int .i64 s.h), .os (H.next + 1) 0 0 s.rows.length, .v (.int .i64 s.row), .v (.int .i64 s.col), .v (.int .i64 s.attr)]], none⟩).push ⟨47, 2, 0, rowsA s.rows, none⟩)) : CallNE EZ ys lo f args H fun x H' => ∃ n m, x = .op n 0 0 0 ∧ SP T 0 H' n m 0 s ∧ H.next ≤ n ∧ H.next ≤ m ∧ Ext H H' := by
  obtain ⟨tr, hn, h⟩ := h
  exact ⟨_, _, tr, hn, h, H.next, H.next + 1, rfl, SP.of (Nat.zero_le _) s rfl, by omega, by omega, ((Ext.refl _).push _).push _⟩
section
variable {A L : AV} {es : List (List AV)} {rows : List Rw}
/-- Rows that came in, of any length. -/
def RowsB (es : List (List AV)) (rows : List Rw) : Prop := es.length = rows.length ∧ ∀ j, j < rows.length → ∃ A, nth [] es j = [A, .v (.bool (rows.getD j noRw).2)] ∧ Sl 3 A (cesA (rows.getD j noRw).1) ∧ (rows.getD j noRw).1.length < 2 ^ 63 ∧ R32 (rows.getD j noRw).1
theorem wd_rowsE {d : Nat} {es : List (List AV)} (h : ∀ c ∈ es, Wd Tryz.prog (d + 4) 47 c) : ∃ rows, RowsB es rows := by
  induction es with
  | nil => exact ⟨[], rfl, fun j h => absurd h (Nat.not_lt_zero _)⟩
  | cons c r ih =>
    obtain ⟨A, l, wr, rfl, hA, hl, hr⟩ := wd_row (h c List.mem_cons_self)
    obtain ⟨rows, h1, h2⟩ := ih fun c hc => h c (List.mem_cons_of_mem _ hc)
    refine ⟨(l, wr) :: rows, by simp [h1], fun j hj => ?_⟩
    cases j with
    | zero => exact ⟨A, rfl, hA, hl, hr⟩
    | succ j => exact h2 j (by simpa using hj)
theorem wd_rowsS {d : Nat} {u : List AV} (h : Wd Tryz.prog (d + 5) 68 u) : ∃ (L : AV) (es : List (List AV)) (rows : List Rw), u = [L] ∧ Sl 2 L es ∧ es.length < 2 ^ 63 ∧ RowsB es rows := by
  unfold Wd at h
  rw [Tryz.underlying68] at h
  obtain ⟨x, es, rfl, hs, hlen, he⟩ := h
  have hc3 : Tryz.prog.cellsOf 47 = 2 := by kernel_rfl
  rw [hc3] at hs
  obtain ⟨rows, hr⟩ := wd_rowsE he
  exact ⟨x, es, rows, rfl, hs, by unfold maxLen at hlen; omega, hr⟩
theorem RowsB.cut (h : RowsB es rows) (k : Nat) : RowsP (es.take k) (rows.take k) ∧ ∀ r ∈ rows.take k, R32 r.1 := by
  obtain ⟨h1, h2⟩ := h
  have ht : ∀ j, j < (rows.take k).length → (rows.take k).getD j noRw = rows.getD j noRw ∧ nth [] (es.take k) j = nth [] es j := fun j hj => by
    rw [List.length_take] at hj
    rw [nth_getD, nth_getD]
    simp only [List.getD_eq_getElem?_getD, List.getElem?_take]
    rw [if_pos (by omega), if_pos (by omega)]; exact ⟨rfl, rfl⟩
  refine ⟨⟨by rw [List.length_take, List.length_take, h1], fun j hj => ?_⟩, fun r hr => ?_⟩
  · obtain ⟨e1, e2⟩ := ht j hj
    rw [List.length_take] at hj
    obtain ⟨A, a1, a2, a3, _⟩ := h2 j (by omega)
    exact ⟨A, by rw [e1, e2]; exact a1, by rw [e1]; exact a2, by rw [e1]; exact a3⟩
  · obtain ⟨j, hj, rfl⟩ := List.mem_iff_getElem.1 hr
    have e1 := (ht j hj).1
    rw [List.getD_eq_getElem?_getD, List.getElem?_eq_getElem hj] at e1
    rw [List.length_take] at hj
    obtain ⟨_, _, _, _, a4⟩ := h2 j (by omega)
    show R32 ((some (rows.take k)[j]).getD noRw).1
    rw [e1]; exact a4
theorem fitL_G {l : List Ce} (hl : rowG l) (w : Nat) (w0 : 0 < w) (w3 : w ≤ 300) : rowG (fitL w l) := by
  have hf : ∀ j, j < w → (fitL w l).getD j zeroC = if j < l.length then (if j + 1 = min w l.length ∧ (l.getD j zeroC).w = 2 then blankC else l.getD j zeroC) else blankC := fun j hj => by
    unfold fitL
    rw [app_at, cutL_len]
    by_cases h : j < l.length
    · rw [if_pos (by omega), if_pos h, cutL_at _ _ _ (by omega)]
    · rw [if_neg (by omega), if_neg h]; exact blanks_at _ _ (by omega)
  have hb : mayC blankC.r blankC.w blankC.a := by decide +kernel
  refine ⟨by rw [fitL_len]; exact w3, fun i hi => ?_⟩
  rw [fitL_len] at hi ⊢
  rw [hf i hi]
  by_cases h : i < l.length
  · rw [if_pos h]
    obtain ⟨m0, m1, m2⟩ := hl.2 i h
    by_cases e : i + 1 = min w l.length ∧ (l.getD i zeroC).w = 2
    · rw [if_pos e]
      exact ⟨hb, fun z => absurd z (by decide), fun z => absurd z (by decide)⟩
    · rw [if_neg e]
      refine ⟨m0, fun z => ?_, fun z => ?_⟩
      · obtain ⟨a1, a2, a3⟩ := m1 z
        rw [hf (i - 1) (by omega), if_pos (by omega), if_neg (fun y => by omega)]
        exact ⟨a1, a2, a3⟩
      · obtain ⟨a1, a2⟩ := m2 z
        have : i + 1 < w := by
          rcases Nat.lt_or_ge (i + 1) w with q | q
          · exact q
          · exact absurd ⟨by omega, z⟩ e
        refine ⟨this, ?_⟩
        rw [hf (i + 1) this, if_pos a1, if_neg (fun y => by have := y.2; omega)]
        exact a2
  · rw [if_neg h]
    exact ⟨hb, fun z => absurd z (by decide), fun z => absurd z (by decide)⟩
theorem fitL_R {l : List Ce} (h : R32 l) (w : Nat) : R32 (fitL w l) := fun i => by
  unfold fitL
  rw [app_at, cutL_len]
  by_cases hi : i < min w l.length
  · rw [if_pos hi, cutL_at _ _ _ hi]
    split
    · simp
    · exact h i
  · rw [if_neg hi]; exact R32_blanks _ _
theorem ScG.of (hr : ∀ r ∈ rows, R32 r.1) (w h ar ac a : Int) : ScG (Sc.of rows w h ar ac a) := by
  unfold Sc.of
  have w2 : 2 ≤ min (max w 2) 300 := by omega
  have w3 : min (max w 2) 300 ≤ 300 := by omega
  have h1 : 1 ≤ min (max h 1) 100 := by omega
  have h2 : min (max h 1) 100 ≤ 100 := by omega
  generalize min (max w 2) 300 = w' at *
  generalize min (max h 1) 100 = h' at *
  refine ⟨w2, w3, h1, h2, by simp; omega, fun x hx => ?_, by show 0 ≤ min _ _; omega, by show min _ _ < h'; omega, by show 0 ≤ min _ _; omega, by show min _ _ ≤ w'; omega, by show 0 ≤ a % 256; omega, by show a % 256 ≤ 255; omega⟩
  obtain ⟨i, _, rfl⟩ := List.mem_map.1 hx
  unfold ofRow
  split
  · rename_i hi
    unfold fitR
    split
    · rename_i hG
      exact ⟨fitL_G hG _ (by omega) (by omega), fitL_R (hr _ (getMem noRw hi)) _, by rw [fitL_len]; show ((w'.toNat : Nat) : Int) = w'; omega⟩
    · exact RwG.blank (by show 0 ≤ w'; omega) w3
  · exact RwG.blank (by show 0 ≤ w'; omega) w3
theorem ScreenOf_law (hL : Sl 2 L es) (hlen : es.length < 2 ^ 63) (hE : RowsB es rows) (w ht ar ac at_ : Int) (hat : -9223372036854775808 ≤ at_ ∧ at_ ≤ 9223372036854775807) (k r : Int) (hr : -2147483648 ≤ r ∧ r ≤ 2147483647) (A : AV) (a : List Int) (hA : Sl 1 A (ints a)) (ha : a.length < 2 ^ 63) (t : ByteArray) : WC EZ [] 0 13 [L, .v (.int .i64 w), .v (.int .i64 ht), .agg [.v (.int .i64 ar), .v (.int .i64 ac)], .v (.int .i64 at_), .agg [.v (.int .i64 k), .v (.int .i32 r), A, .v (.string t)]] .empty fun x _ => x = .v (.bool true) := by
  have lnL : ∀ G, primL 0 G (builtinA EZ .len #[68] 3 [L]) = some (.v (.int .i64 es.length), G, rdTr L) := fun G => len_SlH EZ 0 68 3 (.inl hL) (by kernel_rfl)
  have hk : (min (es.length : Int) 20).toNat = min es.length 20 := by omega
  have slL : ∀ G, primL 0 G (sliceA EZ 68 L none (some (.v (.int .i64 (min (es.length : Int) 20)))) none) = some (cutA L 0 (min es.length 20), G, rdTr L) := fun G => by
    have := slice_SlH EZ 0 (t := 68) (H := G) (by kernel_rfl) (.inl hL) none (some (.v (.int .i64 (min (es.length : Int) 20)))) (bound_none 0) (bound_some .i64 _ _ (by omega)) (Nat.zero_le _) (by omega)
    rw [hk] at this; exact this
  have hB : Sl 2 (cutA L 0 (min es.length 20)) (es.take (min es.length 20)) := by
    have := cutA_Sl (lo := 0) (hi := min es.length 20) hL
    rw [List.drop_zero, Nat.sub_zero] at this; exact this
  obtain ⟨hP, h32⟩ := hE.cut (min es.length 20)
  have hrl : (rows.take (min es.length 20)).length < 2 ^ 40 := by rw [List.length_take]; omega
  have hct : cellsOf A = some [A] := cells_SlH (H := .empty) (.inl hA)
  have lnA := fun G => len_intX 0 (H0 := G) (.inl hA) G (Ext.refl G)
  have hOf := fun ys G => scr_NE (scrOf_run (ys := ys) (lo := 0) (H := G) (.inl hB) hP hrl w ht ar ac at_ hat)
  have hROf := fun ys G => scr_NE (scr_own (ys := ys) (lo := 0) (H := G) (f := 50) (args := [cutA L 0 (min es.length 20), .v (.int .i64 w), .v (.int .i64 ht), .agg [.v (.int .i64 ar), .v (.int .i64 ac)], .v (.int .i64 at_)]) rfl fun lo' H' hh => rOf_wc (lo_two hh) (.inl hB) hP h32 hrl w ht ar ac at_ hat)
  have hg0 := ScG.of h32 w ht ar ac at_
  generalize Sc.of (rows.take (min es.length 20)) w ht ar ac at_ = s0 at *
  refine zvin Tryz.func13 Tryz.ntmps13 ?_
  repeat' (first
   | refine zka ?_
   | refine zkb ?_
   | (apply RKp.op; ((try simp (disch := (first | omega | exact zX | exact zO | fail)) only [lnL, slL, hct, lnA, go_sem, Nat.reduceDiv, Nat.reduceMod, Nat.reduceAdd, Nat.reduceSub, Nat.reduceEqDiff, Nat.reduceLeDiff, Nat.reduceLT, Nat.reduceMul, reduceIte, Nat.reducePow, Int.reduceEq]); exact zL); rfl)
   | (apply RKp.call; (apply begun_R <;> (exact zD)); rfl)
   | refine zkc ?_
   | apply RKg.tt
   | apply RKg.ff
   | refine zkd ?_
   | refine zke ?_
   | refine zkf ?_
   | (refine RKg.split (fun h => ?_) (fun h => ?_) <;> (try rw [h]) <;> (replace h := zB h) <;> (try (exfalso; first | exact h | omega)))
   | apply RK.nil
   | apply V.sq
   | apply V.bl
   | apply V.sc
   | apply V.skip
   | apply V.label
   | apply V.ret
   | apply V.exit
   | apply SeqQ.normal
   | apply SeqQ.ret
   | apply SeqQ.exit
   | apply BlockQ.normal
   | apply BlockQ.ret
   | apply BlockQ.here
   | refine zbt ?_
   | apply LoopS.ret
   | apply LoopS.exit
   | apply LoopF.ret
   | apply LoopF.exit
   | apply V.regK
    | refine zva ?_
   | refine zvb ?_
   | refine zgc ?_
   | refine zvd ?_
   | refine zve ?_
   | (refine zvf (fun h => ?_) (fun h => ?_) <;> (replace h := zB h) <;> (try (exfalso; first | exact h | omega)))
    | (refine zfc Tryz.results13 ?_; (try dsimp only)))
  apply RKp.callNE (hOf _ _)
  · intro x; rfl
  rintro x H3 tr htr ⟨n, m, rfl, hS, b1, b2, hx⟩
  have n3 := hx.next
  simp only [next_push, next_empty] at b1 b2 n3
  have gP : H3.get 0 = some (pblk ar ac) := by rw [hx.get 0 (by simp only [next_push, next_empty]; omega)]; rfl
  have gE : H3.get 1 = some (evk k r A t) := by rw [hx.get 1 (by simp only [next_push, next_empty]; omega)]; rfl
  have ne1 := hS.ne; have nn1 := hS.nn; have mn1 := hS.mn
  repeat' (first
   | refine zka ?_
   | refine zkb ?_
   | (apply RKp.op; ((try simp (disch := (first | omega | exact zX | exact zO | fail)) only [gP, hct, go_sem, Nat.reduceDiv, Nat.reduceMod, Nat.reduceAdd, Nat.reduceSub, Nat.reduceEqDiff, Nat.reduceLeDiff, Nat.reduceLT, Nat.reduceMul, reduceIte, Nat.reducePow, Int.reduceEq]); exact zL); rfl)
   | refine zkc ?_
   | apply RKg.tt
   | apply RKg.ff
   | refine zkd ?_
   | refine zke ?_
   | refine zkf ?_
   | (refine RKg.split (fun h => ?_) (fun h => ?_) <;> (try rw [h]) <;> (replace h := zB h) <;> (try (exfalso; first | exact h | omega)))
   | apply RK.nil
   | apply V.sq
   | apply V.bl
   | apply V.sc
   | apply V.skip
   | apply V.label
   | apply V.ret
   | apply V.exit
   | apply SeqQ.normal
   | apply SeqQ.ret
   | apply SeqQ.exit
   | apply BlockQ.normal
   | apply BlockQ.ret
   | apply BlockQ.here
   | refine zbt ?_
   | apply LoopS.ret
   | apply LoopS.exit
   | apply LoopF.ret
   | apply LoopF.exit
   | apply V.regK
    | refine zva ?_
   | refine zvb ?_
   | refine zgc ?_
   | refine zvd ?_
   | refine zve ?_
   | (refine zvf (fun h => ?_) (fun h => ?_) <;> (replace h := zB h) <;> (try (exfalso; first | exact h | omega)))
    | (refine zfc Tryz.results13 ?_; (try dsimp only)))
  apply RKp.callNE (hROf _ _)
  · intro x; rfl
  rintro x H4 tr2 htr2 ⟨n', m', rfl, hR, b3, b4, hx4⟩
  have n4 := hx4.next
  have ne2 := hR.ne; have nn2 := hR.nn; have mn2 := hR.mn
  have gE4 : H4.get 1 = some (evk k r A t) := by rw [hx4.get 1 (by omega)]; exact gE
  replace hS := hS.ext hx4
  have e0 : a = [] := List.eq_nil_of_length_eq_zero (by omega)
  subst e0
  have d1 : n ≠ n' := by omega
  have d2 : n ≠ m' := by omega
  have d3 : m ≠ n' := by omega
  have d4 : m ≠ m' := by omega
  have hsame := fun ys lo => same_run (ys := ys) (lo := lo) hS hR hg0
  have hDo := fun ys => Do_run (ys := ys) hS hg0 k r hr t (.inl hA) (fun k hk => (hA.noname hk).elim) (by simp) (by simp)
  repeat' (first
   | refine zka ?_
   | refine zkb ?_
   | (apply RKp.op; ((try simp (disch := (first | omega | exact zX | exact zO | fail)) only [gE4, hct, go_sem, Nat.reduceDiv, Nat.reduceMod, Nat.reduceAdd, Nat.reduceSub, Nat.reduceEqDiff, Nat.reduceLeDiff, Nat.reduceLT, Nat.reduceMul, reduceIte, Nat.reducePow, Int.reduceEq]); exact zL); rfl)
   | (apply RKp.callR; (apply hsame <;> (exact zD)); rfl; intro tr htr)
   | (apply RKp.callE; (apply hDo <;> (exact zD)); (intro x; rfl))
   | refine zkc ?_
   | apply RKg.tt
   | apply RKg.ff
   | refine zkd ?_
   | refine zke ?_
   | refine zkf ?_
   | (refine RKg.split (fun h => ?_) (fun h => ?_) <;> (try rw [h]) <;> (replace h := zB h) <;> (try (exfalso; first | exact h | omega)))
   | apply RK.nil
   | apply V.sq
   | apply V.bl
   | apply V.sc
   | apply V.skip
   | apply V.label
   | apply V.ret
   | apply V.exit
   | apply SeqQ.normal
   | apply SeqQ.ret
   | apply SeqQ.exit
   | apply BlockQ.normal
   | apply BlockQ.ret
   | apply BlockQ.here
   | refine zbt ?_
   | apply LoopS.ret
   | apply LoopS.exit
   | apply LoopF.ret
   | apply LoopF.exit
   | apply V.regK
    | refine zva ?_
   | refine zvb ?_
   | refine zgc ?_
   | refine zvd ?_
   | refine zve ?_
   | (refine zvf (fun h => ?_) (fun h => ?_) <;> (replace h := zB h) <;> (try (exfalso; first | exact h | omega)))
    | (refine zfc Tryz.results13 ?_; (try dsimp only)))
  rintro x1 H5 tr1 ⟨m1, e1, hS1, hF1, hO1⟩
  obtain ⟨hg1, hw1, _, _⟩ := hg0.ev k r hr (a := []) (by simp)
  have ho1 := ev_out s0 k r []
  have f1 := hF1.nw; have f2 := hF1.next
  have gE5 : H5.get 1 = some (evk k r A t) := by rw [hF1.keep 1 (by omega) (by omega) (by omega)]; exact gE4
  have hR1 := hR.fr (T' := 0) (e' := 0) hF1 (by omega) (by omega) (by omega) (by omega)
  have hRDo := fun ys => rDo_run (ys := ys) hR1 hg0 k r hr t (.inl hA) (fun k hk => (hA.noname hk).elim) (by simp) (by simp)
  have g3 := hg0.w3
  generalize hst' : s0.ev k r [] = se at *
  obtain ⟨s1, out⟩ := se
  dsimp only at *
  repeat' (first
   | refine zka ?_
   | refine zkb ?_
   | (apply RKp.op; ((try simp (disch := (first | omega | exact zX | exact zO | fail)) only [gE5, go_sem, Nat.reduceDiv, Nat.reduceMod, Nat.reduceAdd, Nat.reduceSub, Nat.reduceEqDiff, Nat.reduceLeDiff, Nat.reduceLT, Nat.reduceMul, reduceIte, Nat.reducePow, Int.reduceEq]); exact zL); rfl)
   | (apply RKp.callE; (apply hRDo <;> (exact zD)); (intro x; rfl))
   | refine zkc ?_
   | apply RKg.tt
   | apply RKg.ff
   | refine zkd ?_
   | refine zke ?_
   | refine zkf ?_
   | (refine RKg.split (fun h => ?_) (fun h => ?_) <;> (try rw [h]) <;> (replace h := zB h) <;> (try (exfalso; first | exact h | omega)))
   | apply RK.nil
   | apply V.sq
   | apply V.bl
   | apply V.sc
   | apply V.skip
   | apply V.label
   | apply V.ret
   | apply V.exit
   | apply SeqQ.normal
   | apply SeqQ.ret
   | apply SeqQ.exit
   | apply BlockQ.normal
   | apply BlockQ.ret
   | apply BlockQ.here
   | refine zbt ?_
   | apply LoopS.ret
   | apply LoopS.exit
   | apply LoopF.ret
   | apply LoopF.exit
   | apply V.regK
    | refine zva ?_
   | refine zvb ?_
   | refine zgc ?_
   | refine zvd ?_
   | refine zve ?_
   | (refine zvf (fun h => ?_) (fun h => ?_) <;> (replace h := zB h) <;> (try (exfalso; first | exact h | omega)))
    | (refine zfc Tryz.results13 ?_; (try dsimp only)))
  rintro x2 H6 tr6 ⟨m2, e2, hR2, hF2, hO2⟩
  have f3 := hF2.nw; have f4 := hF2.next; have a7 := hS1.mn
  have hS2 := hS1.fr (T' := 0) (e' := 0) hF2 (by omega) (by omega) (by omega) (by omega)
  have hx1 := hF2.ext hO1.sl (fun k hk => by have := hO1.nw k hk; omega)
  have heq : ∀ ys lo, CallRo EZ ys lo 42 [x1, x2] H6 (.v (.bool true)) := fun ys lo => by
    simpa using EqRows_run (ys := ys) (lo := lo) (H := H6) hx1 hO2.sl (by omega) (by omega) (rows_bd hw1 g3) (rows_bd hw1 g3)
  have hsame2 := fun ys lo => same_run (ys := ys) (lo := lo) hS2 hR2 hg1
  repeat' (first
   | refine zka ?_
   | refine zkb ?_
   | (apply RKp.op; ((try simp (disch := (first | omega | exact zX | exact zO | fail)) only [go_sem, Nat.reduceDiv, Nat.reduceMod, Nat.reduceAdd, Nat.reduceSub, Nat.reduceEqDiff, Nat.reduceLeDiff, Nat.reduceLT, Nat.reduceMul, reduceIte, Nat.reducePow, Int.reduceEq]); exact zL); rfl)
   | (apply RKp.callR; ((first | apply heq | apply hsame2) <;> (exact zD)); rfl; intro tr htr)
   | refine zkc ?_
   | apply RKg.tt
   | apply RKg.ff
   | refine zkd ?_
   | refine zke ?_
   | refine zkf ?_
   | (refine RKg.split (fun h => ?_) (fun h => ?_) <;> (try rw [h]) <;> (replace h := zB h) <;> (try (exfalso; first | exact h | omega)))
   | apply RK.nil
   | apply V.sq
   | apply V.bl
   | apply V.sc
   | apply V.skip
   | apply V.label
   | apply V.ret
   | apply V.exit
   | apply SeqQ.normal
   | apply SeqQ.ret
   | apply SeqQ.exit
   | apply BlockQ.normal
   | apply BlockQ.ret
   | apply BlockQ.here
   | refine zbt ?_
   | apply LoopS.ret
   | apply LoopS.exit
   | apply LoopF.ret
   | apply LoopF.exit
   | apply V.regK
    | refine zva ?_
   | refine zvb ?_
   | refine zgc ?_
   | refine zvd ?_
   | refine zve ?_
   | (refine zvf (fun h => ?_) (fun h => ?_) <;> (replace h := zB h) <;> (try (exfalso; first | exact h | omega)))
    | (refine zfc Tryz.results13 ?_; (try dsimp only)))
theorem wd_pos {d : Nat} {u : List AV} (h : Wd Tryz.prog (d + 2) 73 u) : ∃ r c : Int, u = [.v (.int .i64 r), .v (.int .i64 c)] := by
  unfold Wd at h
  rw [Tryz.underlying73] at h
  obtain ⟨parts, rfl, hl, hp⟩ := h
  match parts, hl with
  | [p0, p1], _ =>
    have h0 := hp 0 _ p0 rfl rfl
    have h1 := hp 1 _ p1 rfl rfl
    simp only [Wd, Tryz.underlying3] at h0 h1
    obtain ⟨r, rfl, _⟩ := h0
    obtain ⟨c, rfl, _⟩ := h1
    exact ⟨r, c, rfl⟩
theorem ScreenOf_run (v : List AV) (hv : Wd Tryz.prog 6 68 v) (w : Int) (hw : (Lit.int .i64 w).wf = true) (ht : Int) (hh : (Lit.int .i64 ht).wf = true) (u : List AV) (hu : Wd Tryz.prog 6 73 u) (at_ : Int) (hat : (Lit.int .i64 at_).wf = true) (e : List AV) (he : Wd Tryz.prog 6 35 e) : WC EZ [] 0 13 [v.getD 0 .dead, .v (.int .i64 w), .v (.int .i64 ht), .agg u, .v (.int .i64 at_), .agg e] .empty fun x _ => x = .v (.bool true) := by
  obtain ⟨L, es, rows, rfl, hL, hlen, hE⟩ := wd_rowsS (d := 1) hv
  obtain ⟨ar, ac, rfl⟩ := wd_pos (d := 4) hu
  obtain ⟨k, r, A, a, t, rfl, hr, hA, ha⟩ := wd_event (d := 2) he
  exact ScreenOf_law hL hlen hE w ht ar ac at_ (i64_wf hat) k r hr A a hA ha t
end
end Go.Am
