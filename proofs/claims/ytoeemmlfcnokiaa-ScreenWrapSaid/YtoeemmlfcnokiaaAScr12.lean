
/- Screens: Of, New. -/
import Derived.Test.YtoeemmlfcnokiaaAScr11
set_option linter.all false
set_option linter.deprecated false
namespace Go.Am
open Go.Proofs
set_option maxRecDepth 8000
set_option maxHeartbeats 4000000

/-- Rows that came in. -/
def RowsP (es : List (List AV)) (rows : List Rw) : Prop := es.length = rows.length ∧ ∀ j, j < rows.length → ∃ A, nth [] es j = [A, .v (.bool (rows.getD j noRw).2)] ∧ Sl 3 A (cesA (rows.getD j noRw).1) ∧ (rows.getD j noRw).1.length < 2 ^ 63
theorem RowsP.nil : RowsP [] [] := ⟨rfl, fun j h => absurd h (Nat.not_lt_zero _)⟩
def ofRow (rows : List Rw) (w : Int) (i : Nat) : Rw := if i < rows.length then fitR w (rows.getD i noRw) else (blanks w.toNat, false)

/-- A screen of rows. -/
def Sc.of (rows : List Rw) (w h ar ac a : Int) : Sc :=
  ⟨min (max w 2) 300, min (max h 1) 100, (List.range (min (max h 1) 100).toNat).map (ofRow rows (min (max w 2) 300)), min (max ar 0) (min (max h 1) 100 - 1), min (max ac 0) (min (max w 2) 300), a % 256⟩
theorem hands_sc {H : AHeap} {T lo n m e len : Nat} {v1 v2 v3 v4 v5 : Value} {rows : List Rw} (hl : lo ≤ n) (hm : lo ≤ m) (hne : n ≠ m) (h1 : H.get n = some ⟨T, 6, 0, [[.v v1, .v v2, .os m e 0 len, .v v3, .v v4, .v v5]], none⟩) (h2 : H.get m = some ⟨45, 2, e, rowsA rows, none⟩) : Hands H lo (.op n 0 0 0) (fun b => .op b 0 0 0) fun b => [⟨T, 6, 0, [[.v v1, .v v2, .os (b + 1) 0 0 len, .v v3, .v v4, .v v5]], none⟩, ⟨45, 2, 0, rowsA rows, none⟩] := by
  have bl : ∀ k, lo ≤ k → Nat.blt k lo = false := fun k hk => by
    cases h : Nat.blt k lo with
    | false => rfl
    | true => rw [Nat.blt_eq] at h; omega
  have be : Nat.beq m n = false := by
    cases h : Nat.beq m n with
    | false => rfl
    | true => exact absurd (Nat.eq_of_beq_eq_true h).symm hne
  have be' : Nat.beq n m = false := by
    cases h : Nat.beq n m with
    | false => rfl
    | true => exact absurd (Nat.eq_of_beq_eq_true h) hne
  refine ⟨[n, m], ?_, ?_, ?_, fun b => ⟨?_, ?_⟩⟩
  · show (if Nat.blt n lo then [] else match H.get n with
      | some b => b.es.foldl (fun T cs => cs.foldl (addN lo) T) (addN lo [] (.op n 0 0 0))
      | none => []) = _
    rw [bl n hl, h1]
    show [[AV.v v1, .v v2, .os m e 0 len, .v v3, .v v4, .v v5]].foldl (fun T cs => cs.foldl (addN lo) T) (if Nat.blt n lo || ([] : List Nat).any (Nat.beq n) then [] else [] ++ [n]) = _
    rw [bl n hl]
    show (if Nat.blt m lo || [n].any (Nat.beq m) then [n] else [n] ++ [m]) = _
    rw [bl m hm]
    simp [be]
  · simp [nodupN, be']
  · simp [Nat.ble_eq, hl, hm]
  · have hf : FlatE (rowsA rows) := flat_rowsA rows
    have e1 : renC H lo b [n, m] frzDepth (.os m e 0 len) = .os (b + 1) 0 0 len := by
      simp only [renC, if_neg (Nat.not_lt.2 hm), idxN, if_neg hne, if_true, h2]
    simp only [blksA, h1, h2, Option.map_some, List.map_cons, List.map_nil, e1, renC_flatE H lo b [n, m] hf]
    rfl
  · simp only [renV, ren1, renC, if_neg (Nat.not_lt.2 hl), idxN, if_true, h1, Nat.add_zero]
theorem SP.of {T lo : Nat} {H : AHeap} (hlo : lo ≤ H.next) (s : Sc) {H' : AHeap} (e : H' = (H.push ⟨T, 6, 0, [[.v (.int .i64 s.w), .v (.int .i64 s.h), .os (H.next + 1) 0 0 s.rows.length, .v (.int .i64 s.row), .v (.int .i64 s.col), .v (.int .i64 s.attr)]], none⟩).push ⟨45, 2, 0, rowsA s.rows, none⟩) : SP T lo H' H.next (H.next + 1) 0 s := by
  subst e
  exact ⟨hlo, by omega, by (first | omega | (simp only [next_push, next_set, next_empty]; done) | (simp only [next_push, next_set, next_empty]; omega)), by (first | omega | (simp only [next_push, next_set, next_empty]; done) | (simp only [next_push, next_set, next_empty]; omega)), by omega, by simp (disch := (first | omega | exact zX | fail)) only [get_set, get_push, next_push, next_set, if_pos', if_neg', if_true, if_false, reduceIte], by simp (disch := (first | omega | exact zX | fail)) only [get_set, get_push, next_push, next_set, if_pos', if_neg', if_true, if_false, reduceIte]⟩
section
variable {ys : List (Nat × LRec)} {lo : Nat} {H : AHeap} {A : AV} {es : List (List AV)} {rows : List Rw}
theorem attr_in (a : Int) : (a.tmod 256 + 256).tmod 256 = a % 256 ∧ -256 ≤ a.tmod 256 ∧ a.tmod 256 ≤ 256 := by
  rcases Int.le_total 0 a with h | h
  · rw [Int.tmod_eq_emod_of_nonneg h, Int.tmod_eq_emod_of_nonneg (by omega)]; omega
  · have e : a.tmod 256 = -((-a) % 256) := by rw [← Int.tmod_eq_emod_of_nonneg (by omega), Int.neg_tmod]; omega
    rw [e, Int.tmod_eq_emod_of_nonneg (by omega)]; omega
abbrev pblk (r c : Int) : Blk := ⟨55, 2, 0, [[.v (.int .i64 r), .v (.int .i64 c)]], none⟩
theorem Of_wc {lo' : Nat} {H' : AHeap} (hlo : lo' = H'.next) (hA' : SlH H' 2 A es) (hr : RowsP es rows) (hlen : rows.length < 2 ^ 40) (w h ar ac a : Int) (ha : -9223372036854775808 ≤ a ∧ a ≤ 9223372036854775807) : WC EA [] lo' 35 [A, .v (.int .i64 w), .v (.int .i64 h), .agg [.v (.int .i64 ar), .v (.int .i64 ac)], .v (.int .i64 a)] H' fun r H'' => ∃ n m e, r = .op n 0 0 0 ∧ lo' ≤ n ∧ lo' ≤ m ∧ SP 73 0 H'' n m e (Sc.of rows w h ar ac a) := by
  have w2 : 2 ≤ min (max w 2) 300 := by omega
  have w3 : min (max w 2) 300 ≤ 300 := by omega
  have h1 : 1 ≤ min (max h 1) 100 := by omega
  have h2 : min (max h 1) 100 ≤ 100 := by omega
  obtain ⟨a1, a2, a3⟩ := attr_in a
  have lenE : primL lo' H' (builtinA EA .len #[39] 3 [A]) = some (.v (.int .i64 rows.length), H', rdTr A) := by
    have := len_SlH EA lo' 39 3 hA' (by kernel_rfl)
    rw [hr.1] at this; exact this
  refine zvin Try.func35 Try.ntmps35 ?_
  repeat' (first
   | refine zka ?_
   | refine zkb ?_
   | (apply RKp.op; ((try simp (disch := (first | omega | exact zX | exact zO | fail)) only [a1, go_sem, Nat.reduceDiv, Nat.reduceMod, Nat.reduceAdd, Nat.reduceSub, Nat.reduceEqDiff, Nat.reduceLeDiff, Nat.reduceLT, Nat.reduceMul, reduceIte, Nat.reducePow, Int.reduceEq]); exact zL); rfl)
   | (apply RKp.call; (apply within_run <;> (exact zD)); rfl)
   | refine zkc ?_
   | apply RKg.tt
   | apply RKg.ff
   | refine zkd ?_
   | refine zke ?_
   | refine zkf ?_
   | (refine RKg.split (fun h => ?_) (fun h => ?_) <;> (try rw [h]) <;> (replace h := zB h) <;> (try (exfalso; first | exact h | omega)))
   | apply RK.nil
   | apply V.sq
   | apply V.bl
   | apply V.sc
   | apply V.skip
   | apply V.label
   | apply V.ret
   | apply V.exit
   | apply SeqQ.normal
   | apply SeqQ.ret
   | apply SeqQ.exit
   | apply BlockQ.normal
   | apply BlockQ.ret
   | apply BlockQ.here
   | refine zbt ?_
   | apply LoopS.ret
   | apply LoopS.exit
   | apply LoopF.ret
   | apply LoopF.exit
   | apply V.regK
    | refine zva ?_
   | refine zvb ?_
   | refine zgc ?_
   | refine zvd ?_
   | refine zve ?_
   | (refine zvf (fun h => ?_) (fun h => ?_) <;> (replace h := zB h) <;> (try (exfalso; first | exact h | omega)))
    | (refine zfc Try.results35 ?_; (try dsimp only)))
  unfold Sc.of
  generalize min (max w 2) 300 = w' at *
  generalize min (max h 1) 100 = h' at *
  apply V.lpS [28, 12, 13, 29, 30, 31, 32, 33, 34, 35, 36, 37, 38, 39, 40, 41, 42, 43, 44, 45, 46, 47, 48, 49, 50, 51, 52, 53, 54, 55, 56, 57, 58, 59] (fun k xs H2 => ∃ (i : Nat) (g : _) (x : AV), xs = .v (.int .i64 i) :: g ∧ k = h'.toNat - i ∧ i ≤ h'.toNat ∧ Ext H' H2 ∧ H'.next + 2 ≤ H2.next ∧ H2.get H'.next = some (pblk ar ac) ∧ H2.get (H'.next + 1) = some ⟨73, 6, 0, [[.v (.int .i64 w'), .v (.int .i64 h'), x, .v (.int .i64 0), .v (.int .i64 0), .v (.int .i64 (a % 256))]], none⟩ ∧ OwS H2 (H'.next + 2) 45 2 x (rowsA ((List.range i).map (ofRow rows w')))) h'.toNat
  focus (intro xs; simp only [putMany, set2, Nat.reduceAdd, Nat.reduceDiv, Nat.reduceMod, nth_zero, nth_succ, List.set_cons_zero, List.set_cons_succ]; rfl)
  focus (first | rfl | simp only [readMany, nth_zero, nth_succ, Nat.reduceDiv, Nat.reduceMod])
  · exact ⟨0, _, _, rfl, rfl, Nat.zero_le _, ((Ext.refl _).push _).push _, by (first | omega | (simp only [next_push, next_set, next_empty]; done) | (simp only [next_push, next_set, next_empty]; omega)), by simp (disch := (first | omega | exact zX | fail)) only [get_set, get_push, next_push, next_set, if_pos', if_neg', if_true, if_false, reduceIte], by simp (disch := (first | omega | exact zX | fail)) only [get_set, get_push, next_push, next_set, if_pos', if_neg', if_true, if_false, reduceIte], OwS.nil _ _ _ _⟩
  · rintro k xs H2 ⟨i, g, x, rfl, rfl, hi, hx, hn2, g0, g1, ho⟩
    have hlr : ((List.range i).map (ofRow rows w')).length = i := by simp
    have hA2 := hA'.ext hx
    have lenE : ∀ G, Ext H2 G → primL lo' G (builtinA EA .len #[39] 3 [A]) = some (.v (.int .i64 rows.length), G, rdTr A) := fun G hG => by
      have := len_SlH EA lo' 39 3 (hA2.ext hG) (by kernel_rfl)
      rw [hr.1] at this; exact this
    by_cases hend : (i : Int) < h'
    · obtain ⟨x', H3, tr3, happ, ho', hnx, hfr⟩ := (ho.push ⟨45, 2, 0, [[.sl 3 (cesA (ofRow rows w' i).1), .v (.bool (ofRow rows w' i).2)]], none⟩).add1 EA lo' app_row (by omega) (by (first | omega | (simp only [next_push, next_set, next_empty]; done) | (simp only [next_push, next_set, next_empty]; omega))) (by rw [rowsA_len, hlr]; unfold roomMax; omega) [.sl 3 (cesA (ofRow rows w' i).1), .v (.bool (ofRow rows w' i).2)]
      rw [next_push] at happ
      have k0 : H3.get H'.next = some (pblk ar ac) := by rw [hfr _ (by omega)]; simp (disch := (first | omega | exact zX | fail)) only [get_set, get_push, next_push, next_set, if_pos', if_neg', if_true, if_false, reduceIte]; exact g0
      have k1 := hfr (H'.next + 1) (by omega)
      rw [get_push, if_neg (by omega), g1] at k1
      have hc := ho.cells
      have hc' := ho'.cells
      rw [next_push] at hnx
      have hxt : Ext H' H3 := ⟨by omega, fun k hk => by rw [hfr k (by omega), get_push, if_neg (by omega), hx.get k hk]⟩
      have hfin : ∀ c1 : List (List AV), c1 = c1 → OwS (H3.set (H'.next + 1) ⟨73, 6, 0, [[.v (.int .i64 w'), .v (.int .i64 h'), x', .v (.int .i64 0), .v (.int .i64 0), .v (.int .i64 (a % 256))]], none⟩) (H'.next + 2) 45 2 x' (rowsA ((List.range (i + 1)).map (ofRow rows w'))) := fun _ _ => by
        rw [List.range_succ, List.map_append, rowsA_app]
        exact ho'.set (by omega) _
      by_cases hlt : i < rows.length
      · have hBl := fun ys G => Blank_D (ys := ys) (lo := lo') (H := G) w' (by omega) w3
        obtain ⟨B, hB1, hB2, hB3⟩ := hr.2 i hlt
        have ixE : ∀ G, Ext H2 G → primL lo' G (indexAddrA EA 39 A (.v (.int .i64 (i : Int)))) = some (ixA A es i, G, rdTr A) := fun G hG =>
          ix_SlH EA lo' 39 .i64 (i : Int) (hA2.ext hG) (by kernel_rfl) (by omega) (by rw [hr.1]; omega)
        have ldE : ∀ G, Ext H2 G → primL lo' G (loadA EA 45 (ixA A es i)) = some (.agg [B, .v (.bool (rows.getD i noRw).2)], G, rdTr A) := fun G hG => by
          rw [load_SlH EA lo' 45 i (hA2.ext hG) (by rw [hr.1]; exact hlt), hB1]; rfl
        have hfit := fun ys G => fit_run (ys := ys) (lo := lo') (H := G) (wr := (rows.getD i noRw).2) hB2 hB3 w' w2 w3
        have hro : ofRow rows w' i = fitR w' ((rows.getD i noRw).1, (rows.getD i noRw).2) := by unfold ofRow; rw [if_pos hlt]
        rw [← hro] at hfit
        repeat' (first
         | refine zka ?_
         | refine zkb ?_
         | (apply RKp.op; ((try simp (disch := (first | omega | exact zX | exact zO | fail)) only [lenE, ixE, ldE, happ, g0, g1, k0, k1, hc, hc', go_sem, Nat.reduceDiv, Nat.reduceMod, Nat.reduceAdd, Nat.reduceSub, Nat.reduceEqDiff, Nat.reduceLeDiff, Nat.reduceLT, Nat.reduceMul, reduceIte, Nat.reducePow, Int.reduceEq]); exact zL); rfl)
         | (apply RKp.callR; ((first | apply hBl | apply hfit) <;> (exact zD)); rfl; intro tr htr)
         | refine zkc ?_
         | apply RKg.tt
         | apply RKg.ff
         | refine zkd ?_
         | refine zke ?_
         | refine zkf ?_
         | (refine RKg.split (fun h => ?_) (fun h => ?_) <;> (try rw [h]) <;> (replace h := zB h) <;> (try (exfalso; first | exact h | omega)))
         | apply RK.nil
         | apply V.sq
         | apply V.bl
         | apply V.sc
         | apply V.skip
         | apply V.label
         | apply V.ret
         | apply V.exit
         | apply SeqQ.normal
         | apply SeqQ.ret
         | apply SeqQ.exit
         | apply BlockQ.normal
         | apply BlockQ.ret
         | apply BlockQ.here
         | refine zbt ?_
         | apply LoopS.ret
         | apply LoopS.exit
         | apply LoopF.ret
         | apply LoopF.exit
         | apply V.regK
          | refine zva ?_
         | refine zvb ?_
         | refine zgc ?_
         | refine zvd ?_
         | refine zve ?_
         | (refine zvf (fun h => ?_) (fun h => ?_) <;> (replace h := zB h) <;> (try (exfalso; first | exact h | omega)))
          | (refine zfc Try.results35 ?_; (try dsimp only)))
        exact LoopS.again (h'.toNat - (i + 1)) (by rfl) (by omega) ⟨i + 1, _, x', rfl, rfl, by omega, hxt.set (by omega) _, by (first | omega | (simp only [next_push, next_set, next_empty]; done) | (simp only [next_push, next_set, next_empty]; omega)), by rw [get_set, if_neg (by omega)]; exact k0, by simp (disch := (first | omega | exact zX | fail)) only [get_set, get_push, next_push, next_set, if_pos', if_neg', if_true, if_false, reduceIte], hfin [] rfl⟩
      · have hro : ofRow rows w' i = (blanks w'.toNat, false) := by unfold ofRow; rw [if_neg hlt]
        have hBl := fun ys G => Blank_D (ys := ys) (lo := lo') (H := G) w' (by omega) w3
        rw [show AV.agg [.sl 3 (cesA (blanks w'.toNat)), .v (.bool false)] = .agg [.sl 3 (cesA (ofRow rows w' i).1), .v (.bool (ofRow rows w' i).2)] by rw [hro]] at hBl
        repeat' (first
         | refine zka ?_
         | refine zkb ?_
         | (apply RKp.op; ((try simp (disch := (first | omega | exact zX | exact zO | fail)) only [lenE, happ, g0, g1, k0, k1, hc, hc', go_sem, Nat.reduceDiv, Nat.reduceMod, Nat.reduceAdd, Nat.reduceSub, Nat.reduceEqDiff, Nat.reduceLeDiff, Nat.reduceLT, Nat.reduceMul, reduceIte, Nat.reducePow, Int.reduceEq]); exact zL); rfl)
         | (apply RKp.callR; (apply hBl <;> (exact zD)); rfl; intro tr htr)
         | refine zkc ?_
         | apply RKg.tt
         | apply RKg.ff
         | refine zkd ?_
         | refine zke ?_
         | refine zkf ?_
         | (refine RKg.split (fun h => ?_) (fun h => ?_) <;> (try rw [h]) <;> (replace h := zB h) <;> (try (exfalso; first | exact h | omega)))
         | apply RK.nil
         | apply V.sq
         | apply V.bl
         | apply V.sc
         | apply V.skip
         | apply V.label
         | apply V.ret
         | apply V.exit
         | apply SeqQ.normal
         | apply SeqQ.ret
         | apply SeqQ.exit
         | apply BlockQ.normal
         | apply BlockQ.ret
         | apply BlockQ.here
         | refine zbt ?_
         | apply LoopS.ret
         | apply LoopS.exit
         | apply LoopF.ret
         | apply LoopF.exit
         | apply V.regK
          | refine zva ?_
         | refine zvb ?_
         | refine zgc ?_
         | refine zvd ?_
         | refine zve ?_
         | (refine zvf (fun h => ?_) (fun h => ?_) <;> (replace h := zB h) <;> (try (exfalso; first | exact h | omega)))
          | (refine zfc Try.results35 ?_; (try dsimp only)))
        exact LoopS.again (h'.toNat - (i + 1)) (by rfl) (by omega) ⟨i + 1, _, x', rfl, rfl, by omega, hxt.set (by omega) _, by (first | omega | (simp only [next_push, next_set, next_empty]; done) | (simp only [next_push, next_set, next_empty]; omega)), by rw [get_set, if_neg (by omega)]; exact k0, by simp (disch := (first | omega | exact zX | fail)) only [get_set, get_push, next_push, next_set, if_pos', if_neg', if_true, if_false, reduceIte], hfin [] rfl⟩
    · have ei : i = h'.toNat := by omega
      subst ei
      repeat' (first
       | refine zka ?_
       | refine zkb ?_
       | (apply RKp.op; ((try simp (disch := (first | omega | exact zX | exact zO | fail)) only [g0, g1, go_sem, Nat.reduceDiv, Nat.reduceMod, Nat.reduceAdd, Nat.reduceSub, Nat.reduceEqDiff, Nat.reduceLeDiff, Nat.reduceLT, Nat.reduceMul, reduceIte, Nat.reducePow, Int.reduceEq]); exact zL); rfl)
       | (apply RKp.call; (apply within_run <;> (exact zD)); rfl)
       | refine zkc ?_
       | apply RKg.tt
       | apply RKg.ff
       | refine zkd ?_
       | refine zke ?_
       | refine zkf ?_
       | (refine RKg.split (fun h => ?_) (fun h => ?_) <;> (try rw [h]) <;> (replace h := zB h) <;> (try (exfalso; first | exact h | omega)))
       | apply RK.nil
       | apply V.sq
       | apply V.bl
       | apply V.sc
       | apply V.skip
       | apply V.label
       | apply V.ret
       | apply V.exit
       | apply SeqQ.normal
       | apply SeqQ.ret
       | apply SeqQ.exit
       | apply BlockQ.normal
       | apply BlockQ.ret
       | apply BlockQ.here
       | refine zbt ?_
       | apply LoopS.ret
       | apply LoopS.exit
       | apply LoopF.ret
       | apply LoopF.exit
       | apply V.regK
        | refine zva ?_
       | refine zvb ?_
       | refine zgc ?_
       | refine zvd ?_
       | refine zve ?_
       | (refine zvf (fun h => ?_) (fun h => ?_) <;> (replace h := zB h) <;> (try (exfalso; first | exact h | omega)))
        | (refine zfc Try.results35 ?_; (try dsimp only)))
      rcases ho with ⟨h0, _⟩ | ⟨m, e, rfl, hb, hm, hg⟩
      · exfalso
        have := congrArg List.length h0
        rw [rowsA_len, hlr] at this
        simp at this; omega
      · refine ⟨H'.next + 1, m, e, rfl, by omega, by omega, ⟨Nat.zero_le _, Nat.zero_le _, by (first | omega | (simp only [next_push, next_set, next_empty]; done) | (simp only [next_push, next_set, next_empty]; omega)), by (first | omega | (simp only [next_push, next_set, next_empty]; done) | (simp only [next_push, next_set, next_empty]; omega)), by omega, ?_, ?_⟩⟩
        · rw [rowsA_len]
          simp (disch := (first | omega | exact zX | fail)) only [get_set, get_push, next_push, next_set, if_pos', if_neg', if_true, if_false, reduceIte]
        · rw [get_set, if_neg (by omega)]
          exact hg

/-- An own call that gives a screen. -/
theorem scr_own {f : FuncId} {args : List AV} {T : Nat} {s : Sc} (hpol : EA.pol f = .own) (hc : ∀ lo' H', (lo' = H.next ∧ H' = H) ∨ (lo' = 0 ∧ H' = .empty ∧ args.all nf = true) → WC EA [] lo' f args H' fun r H'' => ∃ n m e, r = .op n 0 0 0 ∧ lo' ≤ n ∧ lo' ≤ m ∧ SP T 0 H'' n m e s) : CallN EA ys lo f args H (.op H.next 0 0 0) ((H.push ⟨T, 6, 0, [[.v (.int .i64 s.w), .v (.int .i64 s.h), .os (H.next + 1) 0 0 s.rows.length, .v (.int .i64 s.row), .v (.int .i64 s.col), .v (.int .i64 s.attr)]], none⟩).push ⟨45, 2, 0, rowsA s.rows, none⟩) :=
  WC.ownN (x := fun b => .op b 0 0 0) (bs := fun b => [⟨T, 6, 0, [[.v (.int .i64 s.w), .v (.int .i64 s.h), .os (b + 1) 0 0 s.rows.length, .v (.int .i64 s.row), .v (.int .i64 s.col), .v (.int .i64 s.attr)]], none⟩, ⟨45, 2, 0, rowsA s.rows, none⟩]) hpol fun lo' H' hh => by
    obtain ⟨k, r, H'', h1, n, m, e, rfl, hn, hm, hS⟩ := hc lo' H' hh
    exact ⟨k, _, H'', h1, hands_sc hn hm hS.ne hS.blk hS.rows⟩
theorem scrOf_run (hA : SlH H 2 A es) (hr : RowsP es rows) (hlen : rows.length < 2 ^ 40) (w h ar ac a : Int) (ha : -9223372036854775808 ≤ a ∧ a ≤ 9223372036854775807) : CallN EA ys lo 35 [A, .v (.int .i64 w), .v (.int .i64 h), .agg [.v (.int .i64 ar), .v (.int .i64 ac)], .v (.int .i64 a)] H (.op H.next 0 0 0) ((H.push ⟨73, 6, 0, [[.v (.int .i64 (Sc.of rows w h ar ac a).w), .v (.int .i64 (Sc.of rows w h ar ac a).h), .os (H.next + 1) 0 0 (Sc.of rows w h ar ac a).rows.length, .v (.int .i64 (Sc.of rows w h ar ac a).row), .v (.int .i64 (Sc.of rows w h ar ac a).col), .v (.int .i64 (Sc.of rows w h ar ac a).attr)]], none⟩).push ⟨45, 2, 0, rowsA (Sc.of rows w h ar ac a).rows, none⟩) :=
  scr_own rfl fun lo' H' hh => Of_wc (lo_two hh) (hA.two (.inr ⟨[], .inr (by simp)⟩) hh) hr hlen w h ar ac a ha
theorem new_of (w h : Int) : Sc.of [] w h 0 0 0 = Sc.new (min (max w 2) 300) (min (max h 1) 100) := by
  unfold Sc.of Sc.new
  have e1 : (List.range (min (max h 1) 100).toNat).map (ofRow [] (min (max w 2) 300)) = List.replicate (min (max h 1) 100).toNat (blanks (min (max w 2) 300).toNat, false) := by
    rw [show ofRow [] (min (max w 2) 300) = fun _ => (blanks (min (max w 2) 300).toNat, false) from rfl, List.map_const', List.length_range]
  rw [e1]
  congr 1 <;> omega
theorem New_run (w h : Int) : CallN EA ys lo 15 [.v (.int .i64 w), .v (.int .i64 h)] H (.op H.next 0 0 0) ((H.push ⟨73, 6, 0, [[.v (.int .i64 (Sc.new (min (max w 2) 300) (min (max h 1) 100)).w), .v (.int .i64 (Sc.new (min (max w 2) 300) (min (max h 1) 100)).h), .os (H.next + 1) 0 0 (Sc.new (min (max w 2) 300) (min (max h 1) 100)).rows.length, .v (.int .i64 (Sc.new (min (max w 2) 300) (min (max h 1) 100)).row), .v (.int .i64 (Sc.new (min (max w 2) 300) (min (max h 1) 100)).col), .v (.int .i64 (Sc.new (min (max w 2) 300) (min (max h 1) 100)).attr)]], none⟩).push ⟨45, 2, 0, rowsA (Sc.new (min (max w 2) 300) (min (max h 1) 100)).rows, none⟩) :=
  scr_own rfl fun lo' H' hh => by
    have hlo := lo_two hh
    have hof := fun ys => scrOf_run (ys := ys) (lo := lo') (H := H') (A := .v (.slice none 0 0)) (.inl (.inr ⟨rfl, .inr rfl⟩)) RowsP.nil (by simp) w h 0 0 0 (by omega)
    rw [new_of] at hof
    generalize Sc.new (min (max w 2) 300) (min (max h 1) 100) = s at *
    refine zvin Try.func15 Try.ntmps15 ?_
    repeat' (first
     | refine zka ?_
     | refine zkb ?_
     | (apply RKp.op; ((try simp (disch := (first | omega | exact zX | exact zO | fail)) only [go_sem, Nat.reduceDiv, Nat.reduceMod, Nat.reduceAdd, Nat.reduceSub, Nat.reduceEqDiff, Nat.reduceLeDiff, Nat.reduceLT, Nat.reduceMul, reduceIte, Nat.reducePow, Int.reduceEq]); exact zL); rfl)
     | (apply RKp.callN; (apply hof <;> (exact zD)); rfl; intro tr htr)
     | refine zkc ?_
     | apply RKg.tt
     | apply RKg.ff
     | refine zkd ?_
     | refine zke ?_
     | refine zkf ?_
     | (refine RKg.split (fun h => ?_) (fun h => ?_) <;> (try rw [h]) <;> (replace h := zB h) <;> (try (exfalso; first | exact h | omega)))
     | apply RK.nil
     | apply V.sq
     | apply V.bl
     | apply V.sc
     | apply V.skip
     | apply V.label
     | apply V.ret
     | apply V.exit
     | apply SeqQ.normal
     | apply SeqQ.ret
     | apply SeqQ.exit
     | apply BlockQ.normal
     | apply BlockQ.ret
     | apply BlockQ.here
     | refine zbt ?_
     | apply LoopS.ret
     | apply LoopS.exit
     | apply LoopF.ret
     | apply LoopF.exit
     | apply V.regK
     | refine zvd ?_
     | refine zve ?_
     | (refine zvf (fun h => ?_) (fun h => ?_) <;> (replace h := zB h) <;> (try (exfalso; first | exact h | omega)))
      | (refine zfc Try.results15 ?_; (try dsimp only)))
    exact ⟨H'.next, H'.next + 1, 0, rfl, by omega, by omega, SP.of (Nat.zero_le _) s rfl⟩
theorem scr_E {f : FuncId} {args : List AV} {T : Nat} {s : Sc} (h : CallN EA ys lo f args H (.op H.next 0 0 0) ((H.push ⟨T, 6, 0, [[.v (.int .i64 s.w), .v (.int .i64 s.h), .os (H.next + 1) 0 0 s.rows.length, .v (.int .i64 s.row), .v (.int .i64 s.col), .v (.int .i64 s.attr)]], none⟩).push ⟨45, 2, 0, rowsA s.rows, none⟩)) : CallE EA ys lo f args H fun x H' => ∃ n m, x = .op n 0 0 0 ∧ SP T 0 H' n m 0 s ∧ H.next ≤ n ∧ H.next ≤ m ∧ Ext H H' := by
  obtain ⟨tr, _, h⟩ := h
  exact ⟨_, _, tr, h, H.next, H.next + 1, rfl, SP.of (Nat.zero_le _) s rfl, by omega, by omega, ((Ext.refl _).push _).push _⟩
theorem New_E (w h : Int) : CallE EA ys lo 15 [.v (.int .i64 w), .v (.int .i64 h)] H fun x H' => ∃ n m, x = .op n 0 0 0 ∧ SP 73 0 H' n m 0 (Sc.new (min (max w 2) 300) (min (max h 1) 100)) ∧ H.next ≤ n ∧ H.next ≤ m ∧ Ext H H' := scr_E (New_run w h)
theorem ScG.new2 (w h : Int) : ScG (Sc.new (min (max w 2) 300) (min (max h 1) 100)) := ScG.new (by omega) (by omega) (by omega) (by omega)
end
end Go.Am
