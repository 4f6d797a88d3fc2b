
/- Screens: what is told of them. -/
import Derived.Test.YtoeemmlfcnokiaaAScr3
set_option linter.all false
set_option linter.deprecated false
namespace Go.Am
open Go.Proofs
set_option maxRecDepth 8000
set_option maxHeartbeats 4000000
theorem two_op {H H' : AHeap} {lo' n e i j : Nat} {args : List AV} (hh : (lo' = H.next ∧ H' = H) ∨ (lo' = 0 ∧ H' = .empty ∧ args.all nf = true)) (hm : AV.op n e i j ∈ args) : lo' = H.next ∧ H' = H := by
  rcases hh with h | ⟨_, _, h⟩
  · exact h
  · have := List.all_eq_true.1 h _ hm; cases this

/-- A slice of cells, frozen deep within. -/
theorem frz_SlH {H : AHeap} {lo sz : Nat} {x : AV} {es : List (List AV)} (h : SlH H sz x es) (hne : es ≠ []) (hf : FlatE es) (hz : 0 < sz) (hn : ∀ k, nameOf x k → lo ≤ k) (d : Nat) : frz H (badN lo []) (d + 2) x = .sl sz es := by
  rcases h with (rfl | ⟨h, _⟩) | ⟨n, e, off, b, rfl, hl, hb, he, hi, hs, ho, ht⟩
  · rfl
  · exact absurd h hne
  · have hbad : badN lo [] n = false := by
      have := hn n ⟨_, _, _, rfl⟩
      cases hc : badN lo [] n with
      | false => rfl
      | true =>
        simp only [badN, List.any_nil, Bool.or_false, Nat.blt_eq] at hc
        omega
    show (if badN lo [] n then AV.dead else match H.get n with
        | some b => if b.ep = e ∧ b.it.isNone ∧ off + es.length ≤ b.es.length ∧ 0 < b.sz then .sl b.sz (((b.es.drop off).take es.length).map fun c => c.map (frz H (badN lo []) (d + 1))) else .dead
        | none => .dead) = _
    rw [hbad, if_neg (by decide), hb]
    show (if b.ep = e ∧ b.it.isNone = true ∧ off + es.length ≤ b.es.length ∧ 0 < b.sz then _ else _) = _
    rw [if_pos ⟨he, by rw [hi]; rfl, ho, by omega⟩, ht, hs, frz_flatE H _ d hf]
section
variable {ys : List (Nat × LRec)} {lo : Nat} {H : AHeap} {A B : AV} {l l' : List Rw}
theorem len_rwX (lo : Nat) {H0 : AHeap} {A : AV} {l : List Rw} (hA : SlH H0 2 A (rowsA l)) (H : AHeap) (hx : Ext H0 H) : primL lo H (builtinA EA .len #[39] 3 [A]) = some (.v (.int .i64 l.length), H, rdTr A) := by
  have := len_SlH EA lo 39 3 (hA.ext hx) (by kernel_rfl)
  rw [rowsA_len] at this; exact this
theorem ix_rwX (lo : Nat) {H0 : AHeap} {A : AV} {l : List Rw} (hA : SlH H0 2 A (rowsA l)) (H : AHeap) (hx : Ext H0 H) (κ : IntKind) (z : Int) (h0 : 0 ≤ z) (h1 : z < l.length) : primL lo H (indexAddrA EA 39 A (.v (.int κ z))) = some (ixA A (rowsA l) z.toNat, H, rdTr A) :=
  ix_SlH EA lo 39 κ z (hA.ext hx) (by kernel_rfl) h0 (by rw [rowsA_len]; exact h1)
end
theorem nth_set (es : List (List AV)) (i j : Nat) (x : List AV) (h : j < es.length) : nth [] (es.set i x) j = if i = j then x else nth [] es j := by
  rw [nth_getD, nth_getD, List.getD_eq_getElem?_getD, List.getElem?_set]
  split
  · rename_i e; subst e; simp [h]
  · rw [List.getD_eq_getElem?_getD]

/-- Rows in a block, their cells by names from N on, or frozen. -/
def RowsOk (H : AHeap) (N : Nat) (es : List (List AV)) (rows : List Rw) : Prop :=
  es.length = rows.length ∧ ∀ j, j < rows.length → ∃ A, nth [] es j = [A, .v (.bool (rows.getD j noRw).2)] ∧ SlH H 3 A (cesA (rows.getD j noRw).1) ∧ ∀ k, nameOf A k → N < k
theorem RowsOk.frz {H : AHeap} {N : Nat} {es : List (List AV)} {rows : List Rw} (h : RowsOk H N es rows) (hne : ∀ r ∈ rows, r.1 ≠ []) (d : Nat) : es.map (fun c => c.map (frz H (badN N []) (d + 2))) = rowsA rows := by
  obtain ⟨hl, hr⟩ := h
  apply List.ext_getElem
  · rw [List.length_map, rowsA_len]; exact hl
  intro j h1 h2
  rw [List.length_map] at h1
  have hj : j < rows.length := by omega
  obtain ⟨A, e1, e2, e3⟩ := hr j hj
  rw [List.getElem_map]
  have e4 : es[j] = [A, .v (.bool (rows.getD j noRw).2)] := by
    rw [← e1, nth_getD, List.getD_eq_getElem?_getD, List.getElem?_eq_getElem h1]; rfl
  have e5 : (rowsA rows)[j] = [.sl 3 (cesA (rows.getD j noRw).1), .v (.bool (rows.getD j noRw).2)] := by
    rw [← nth_rowsA rows j hj, nth_getD, List.getD_eq_getElem?_getD, List.getElem?_eq_getElem h2]; rfl
  rw [e4, e5, List.map_cons, List.map_cons, List.map_nil, frz_SlH e2 (ces_ne (hne _ (getMem noRw hj))) (flat_ces _) (by omega) (fun k hk => by have := e3 k hk; omega) d]
  rfl
theorem frzR_rows {H : AHeap} {N len : Nat} {es : List (List AV)} {rows : List Rw} (hg : H.get N = some ⟨45, 2, 0, es, none⟩) (h : RowsOk H N es rows) (hne : ∀ r ∈ rows, r.1 ≠ []) (hl : len = rows.length) : frzR H N (.os N 0 0 len) = .sl 2 (rowsA rows) := by
  have hb : badN N [] N = false := by
    cases hc : badN N [] N with
    | false => rfl
    | true =>
      simp only [badN, List.any_nil, Bool.or_false, Nat.blt_eq] at hc
      omega
  show (if N < N then _ else Go.Am.frz H (badN N []) 12 (.os N 0 0 len)) = _
  rw [if_neg (by omega)]
  show (if badN N [] N then AV.dead else match H.get N with
      | some b => if b.ep = 0 ∧ b.it.isNone ∧ 0 + len ≤ b.es.length ∧ 0 < b.sz then .sl b.sz (((b.es.drop 0).take len).map fun c => c.map (Go.Am.frz H (badN N []) 11)) else .dead
      | none => .dead) = _
  rw [hb, if_neg (by decide), hg]
  show (if (0 : Nat) = 0 ∧ (none : Option (ByteArray × Nat)).isNone = true ∧ 0 + len ≤ es.length ∧ 0 < 2 then AV.sl 2 (((es.drop 0).take len).map fun c => c.map (Go.Am.frz H (badN N []) 11)) else .dead) = _
  rw [if_pos ⟨rfl, rfl, by have := h.1; omega, by omega⟩, List.drop_zero, List.take_of_length_le (by have := h.1; omega), h.frz hne 9]
section
variable {ys : List (Nat × LRec)} {lo lo0 : Nat} {H : AHeap} {n m e : Nat} {s : Sc}
theorem Cursor_run (hS : SP 73 lo0 H n m e s) : CallRo EA ys lo 22 [.op n 0 0 0] H (.agg [.v (.int .i64 s.row), .v (.int .i64 s.col)]) := by
  refine WC.pureR rfl fun lo' H' hh => ?_
  obtain ⟨rfl, rfl⟩ := two_op hh List.mem_cons_self
  have ⟨nl, ml, nn, mn, ne, hb, hm⟩ := hS
  refine zvin Try.func22 Try.ntmps22 ?_
  repeat' (first
   | refine zka ?_
   | refine zkb ?_
   | (apply RKp.op; ((try simp (disch := (first | omega | exact zX | exact zO | fail)) only [hb, hm, nth_rowsA, rowsA_len, rowsA_set, go_sem, Nat.reduceDiv, Nat.reduceMod, Nat.reduceAdd, Nat.reduceSub, Nat.reduceEqDiff, Nat.reduceLeDiff, Nat.reduceLT, Nat.reduceMul, reduceIte, Nat.reducePow, Int.reduceEq]); exact zL); rfl)
   | refine zkc ?_
   | apply RKg.tt
   | apply RKg.ff
   | refine zkd ?_
   | refine zke ?_
   | refine zkf ?_
   | (refine RKg.split (fun h => ?_) (fun h => ?_) <;> (try rw [h]) <;> (replace h := zB h) <;> (try (exfalso; first | exact h | omega)))
   | apply RK.nil
   | apply V.sq
   | apply V.bl
   | apply V.sc
   | apply V.skip
   | apply V.label
   | apply V.ret
   | apply V.exit
   | apply SeqQ.normal
   | apply SeqQ.ret
   | apply SeqQ.exit
   | apply BlockQ.normal
   | apply BlockQ.ret
   | apply BlockQ.here
   | refine zbt ?_
   | apply LoopS.ret
   | apply LoopS.exit
   | apply LoopF.ret
   | apply LoopF.exit
   | apply V.regK
   | refine zvd ?_
   | refine zve ?_
   | (refine zvf (fun h => ?_) (fun h => ?_) <;> (replace h := zB h) <;> (try (exfalso; first | exact h | omega)))
    | (refine FnQ.retB (resc Try.results22) (by simp (disch := (first | omega | exact zX | exact zO | fail)) only [cellR_op, hb, hm, nth_rowsA, rowsA_len, rowsA_set, go_sem, Nat.reduceDiv, Nat.reduceMod, Nat.reduceAdd, Nat.reduceSub, Nat.reduceEqDiff, Nat.reduceLeDiff, Nat.reduceLT, Nat.reduceMul, reduceIte, Nat.reducePow, Int.reduceEq]; rfl) ?_; (try dsimp only)))
  rfl
theorem Rows_run (hS : SP 73 lo0 H n m e s) (hg : ScG s) : CallRo EA ys lo 18 [.op n 0 0 0] H (.sl 2 (rowsA s.rows)) := by
  refine WC.pureR rfl fun lo' H' hh => ?_
  obtain ⟨rfl, rfl⟩ := two_op hh List.mem_cons_self
  have ⟨nl, ml, nn, mn, ne, hb, hm⟩ := hS
  have h1 := hg.h1; have h2 := hg.h2; have hlen := hg.len
  have hcl := fun ys G (x : Ext H' G) => CloneR_N (ys := ys) (lo := H'.next) (H := G) (hS.slh x) (by intro h; rw [h] at hlen; simp at hlen; omega) (by omega)
  refine zvin Try.func18 Try.ntmps18 ?_
  repeat' (first
   | refine zka ?_
   | refine zkb ?_
   | (apply RKp.op; ((try simp (disch := (first | omega | exact zX | exact zO | fail)) only [hb, hm, nth_rowsA, rowsA_len, rowsA_set, List.length_take, Nat.min_self, go_sem, Nat.reduceDiv, Nat.reduceMod, Nat.reduceAdd, Nat.reduceSub, Nat.reduceEqDiff, Nat.reduceLeDiff, Nat.reduceLT, Nat.reduceMul, reduceIte, Nat.reducePow, Int.reduceEq]); exact zL); rfl)
   | (apply RKp.callN; (apply hcl <;> (exact zD)); rfl; intro tr htr)
   | refine zkc ?_
   | apply RKg.tt
   | apply RKg.ff
   | refine zkd ?_
   | refine zke ?_
   | refine zkf ?_
   | (refine RKg.split (fun h => ?_) (fun h => ?_) <;> (try rw [h]) <;> (replace h := zB h) <;> (try (exfalso; first | exact h | omega)))
   | apply RK.nil
   | apply V.sq
   | apply V.bl
   | apply V.sc
   | apply V.skip
   | apply V.label
   | apply V.ret
   | apply V.exit
   | apply SeqQ.normal
   | apply SeqQ.ret
   | apply SeqQ.exit
   | apply BlockQ.normal
   | apply BlockQ.ret
   | apply BlockQ.here
   | refine zbt ?_
   | apply LoopS.ret
   | apply LoopS.exit
   | apply LoopF.ret
   | apply LoopF.exit
   | apply V.regK
   | refine zvd ?_
   | refine zve ?_
   | (refine zvf (fun h => ?_) (fun h => ?_) <;> (replace h := zB h) <;> (try (exfalso; first | exact h | omega)))
    | (refine zfc Try.results18 ?_; (try dsimp only)))
  apply V.lpS [14, 4, 15, 16, 17, 18, 19, 20, 21, 22, 23, 24, 25, 26, 27] (fun k xs H2 => ∃ (i : Nat) (g : _) (es : List (List AV)), xs = .v (.int .i64 i) :: g ∧ k = s.rows.length - i ∧ i ≤ s.rows.length ∧ H'.next < H2.next ∧ H2.get H'.next = some ⟨45, 2, 0, es, none⟩ ∧ RowsOk H2 H'.next es s.rows) s.rows.length
  focus (intro xs; simp only [putMany, set2, Nat.reduceAdd, Nat.reduceDiv, Nat.reduceMod, nth_zero, nth_succ, List.set_cons_zero, List.set_cons_succ]; rfl)
  focus (first | rfl | simp only [readMany, nth_zero, nth_succ, Nat.reduceDiv, Nat.reduceMod])
  · exact ⟨0, _, _, rfl, rfl, Nat.zero_le _, by rw [next_push]; omega, by rw [get_push, if_pos rfl], rowsA_len _, fun j hj => ⟨_, nth_rowsA _ j hj, .inl (.inl rfl), fun k ⟨_, _, _, h⟩ => by cases h⟩⟩
  · rintro k xs H2 ⟨i, g, es, rfl, rfl, hi, hn2, g0, hle, hok⟩
    by_cases hlt : i < s.rows.length
    · obtain ⟨A, hA1, hA2, hA3⟩ := hok i hlt
      have hrw := hg.rw _ (getMem noRw hlt)
      obtain ⟨c1, c2⟩ := hrw.curl hg.w2 hg.w3
      have hc2 := fun ys => Clone_run (ys := ys) (lo := H'.next) hA2 c2 c1
      repeat' (first
       | refine zka ?_
       | refine zkb ?_
       | (apply RKp.op; ((try simp (disch := (first | omega | exact zX | exact zO | fail)) only [g0, hA1, Int.toNat_natCast, go_sem, Nat.reduceDiv, Nat.reduceMod, Nat.reduceAdd, Nat.reduceSub, Nat.reduceEqDiff, Nat.reduceLeDiff, Nat.reduceLT, Nat.reduceMul, reduceIte, Nat.reducePow, Int.reduceEq]); exact zL); rfl)
       | (apply RKp.callO; (apply hc2 <;> (exact zD)); rfl; intro tr)
       | refine zkc ?_
       | apply RKg.tt
       | apply RKg.ff
       | refine zkd ?_
       | refine zke ?_
       | refine zkf ?_
       | (refine RKg.split (fun h => ?_) (fun h => ?_) <;> (try rw [h]) <;> (replace h := zB h) <;> (try (exfalso; first | exact h | omega)))
       | apply RK.nil
       | apply V.sq
       | apply V.bl
       | apply V.sc
       | apply V.skip
       | apply V.label
       | apply V.ret
       | apply V.exit
       | apply SeqQ.normal
       | apply SeqQ.ret
       | apply SeqQ.exit
       | apply BlockQ.normal
       | apply BlockQ.ret
       | apply BlockQ.here
       | refine zbt ?_
       | apply LoopS.ret
       | apply LoopS.exit
       | apply LoopF.ret
       | apply LoopF.exit
       | apply V.regK
       | refine zvd ?_
       | refine zve ?_
       | (refine zvf (fun h => ?_) (fun h => ?_) <;> (replace h := zB h) <;> (try (exfalso; first | exact h | omega)))
        | (refine zfc Try.results18 ?_; (try dsimp only)))
      refine LoopS.again (s.rows.length - (i + 1)) (by rfl) (by omega) ⟨i + 1, _, es.set i [.os H2.next 0 0 (s.rows.getD i noRw).1.length, .v (.bool (s.rows.getD i noRw).2)], rfl, rfl, by omega, by (first | omega | (simp only [next_push, next_set, next_empty]; done) | (simp only [next_push, next_set, next_empty]; omega)), by simp (disch := (first | omega | exact zX | fail)) only [get_set, get_push, next_push, next_set, if_pos', if_neg', if_true, if_false, reduceIte], (List.length_set).trans hle, fun j hj => ?_⟩
      rw [nth_set _ _ _ _ (by omega)]
      by_cases e : i = j
      · subst e
        rw [if_pos rfl]
        refine ⟨_, rfl, .inr ⟨H2.next, 0, 0, ⟨47, 3, 0, cesA (s.rows.getD i noRw).1, none⟩, by rw [ces_len], by (first | omega | (simp only [next_push, next_set, next_empty]; done) | (simp only [next_push, next_set, next_empty]; omega)), by simp (disch := (first | omega | exact zX | fail)) only [get_set, get_push, next_push, next_set, if_pos', if_neg', if_true, if_false, reduceIte], rfl, rfl, rfl, by simp, by rw [List.drop_zero, List.take_length]⟩, fun k ⟨_, _, _, h⟩ => by cases h; omega⟩
      · rw [if_neg e]
        obtain ⟨B, hB1, hB2, hB3⟩ := hok j hj
        exact ⟨B, hB1, (((Fr.refl H2 H'.next H'.next).setn _).push _).ext hB2 (fun k hk => by have := hB3 k hk; omega), hB3⟩
    · have ei : i = s.rows.length := by omega
      subst ei
      repeat' (first
       | refine zka ?_
       | refine zkb ?_
       | (apply RKp.op; ((try simp (disch := (first | omega | exact zX | exact zO | fail)) only [g0, go_sem, Nat.reduceDiv, Nat.reduceMod, Nat.reduceAdd, Nat.reduceSub, Nat.reduceEqDiff, Nat.reduceLeDiff, Nat.reduceLT, Nat.reduceMul, reduceIte, Nat.reducePow, Int.reduceEq]); exact zL); rfl)
       | refine zkc ?_
       | apply RKg.tt
       | apply RKg.ff
       | refine zkd ?_
       | refine zke ?_
       | refine zkf ?_
       | (refine RKg.split (fun h => ?_) (fun h => ?_) <;> (try rw [h]) <;> (replace h := zB h) <;> (try (exfalso; first | exact h | omega)))
       | apply RK.nil
       | apply V.sq
       | apply V.bl
       | apply V.sc
       | apply V.skip
       | apply V.label
       | apply V.ret
       | apply V.exit
       | apply SeqQ.normal
       | apply SeqQ.ret
       | apply SeqQ.exit
       | apply BlockQ.normal
       | apply BlockQ.ret
       | apply BlockQ.here
       | refine zbt ?_
       | apply LoopS.ret
       | apply LoopS.exit
       | apply LoopF.ret
       | apply LoopF.exit
       | apply V.regK
       | refine zvd ?_
       | refine zve ?_
       | (refine zvf (fun h => ?_) (fun h => ?_) <;> (replace h := zB h) <;> (try (exfalso; first | exact h | omega)))
        | (refine zfc Try.results18 ?_; (try dsimp only)))
      exact frzR_rows g0 ⟨hle, hok⟩ (fun r hr => ((hg.rw r hr).curl hg.w2 hg.w3).2) rfl

end
end Go.Am
