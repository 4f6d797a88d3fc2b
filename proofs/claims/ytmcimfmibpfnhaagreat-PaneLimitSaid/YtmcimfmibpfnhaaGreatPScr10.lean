
/- Screens: what is told of them. -/
import Derived.Test.YtmcimfmibpfnhaaGreatPScr3
set_option linter.all false
set_option linter.deprecated false
namespace Go.Am
variable {oc : Orc} [OrcI oc] [OrcF oc]
open Go.Proofs
set_option maxRecDepth 8000
set_option maxHeartbeats 4000000
theorem rw_extS {l l' : List Rw} (h : l.length = l'.length) (he : ∀ j, j < l.length → l.getD j noRw = l'.getD j noRw) : l = l' := by
  apply List.ext_getElem h
  intro i h1 h2
  have := he i h1
  simpa [List.getD_eq_getElem?_getD, List.getElem?_eq_getElem h1, List.getElem?_eq_getElem h2] using this
theorem two_op {H H' : AHeap} {lo' n e i j : Nat} {args : List AV} (hh : (lo' = H.next ∧ H' = H) ∨ (lo' = 0 ∧ H' = .empty ∧ args.all nf = true)) (hm : AV.op n e i j ∈ args) : lo' = H.next ∧ H' = H := by
  rcases hh with h | ⟨_, _, h⟩
  · exact h
  · have := List.all_eq_true.1 h _ hm; cases this
section
variable {ys : List (Nat × LRec)} {lo : Nat} {H : AHeap} {A B : AV} {l l' : List Rw}
theorem len_rwX (lo : Nat) {H0 : AHeap} {A : AV} {l : List Rw} (hA : SlH H0 2 A (rowsA l)) (H : AHeap) (hx : Ext H0 H) : primL lo H (builtinA (ELo oc) .len #[22] 3 [A]) = some (.v (.int .i64 l.length), H, rdTr A) := by
  have := len_SlH (ELo oc) lo 22 3 (hA.ext hx) (by kernel_rfl)
  rw [rowsA_len] at this; exact this
theorem ix_rwX (lo : Nat) {H0 : AHeap} {A : AV} {l : List Rw} (hA : SlH H0 2 A (rowsA l)) (H : AHeap) (hx : Ext H0 H) (κ : IntKind) (z : Int) (h0 : 0 ≤ z) (h1 : z < l.length) : primL lo H (indexAddrA (ELo oc) 22 A (.v (.int κ z))) = some (ixA A (rowsA l) z.toNat, H, rdTr A) :=
  ix_SlH (ELo oc) lo 22 κ z (hA.ext hx) (by kernel_rfl) h0 (by rw [rowsA_len]; exact h1)
theorem ld_rwX (lo : Nat) {H0 : AHeap} {A : AV} {l : List Rw} (hA : SlH H0 2 A (rowsA l)) (H : AHeap) (hx : Ext H0 H) (j : Nat) (h : j < l.length) : primL lo H (loadA (ELo oc) 48 (ixA A (rowsA l) j)) = some (.agg [.sl 3 (cesA (l.getD j noRw).1), .v (.bool (l.getD j noRw).2)], H, rdTr A) := by
  rw [load_SlH (ELo oc) lo 48 j (hA.ext hx) (by rw [rowsA_len]; exact h), nth_rowsA l j h]; rfl
theorem EqRows_run (hA : SlH H 2 A (rowsA l)) (hB : SlH H 2 B (rowsA l')) (hl : l.length < 2 ^ 40) (hl' : l'.length < 2 ^ 40) (hw : ∀ r ∈ l, r.1.length < 2 ^ 40) (hw' : ∀ r ∈ l', r.1.length < 2 ^ 40) : CallRo (ELo oc) ys lo 30 [A, B] H (.v (.bool (decide (l = l')))) := by
  refine WC.pureR rfl fun lo' H' hh => ?_
  have hA' := hA.two (.inr ⟨[], .inr (by simp)⟩) hh
  have hB' := hB.two (.inr ⟨[], .inr (by simp)⟩) hh
  refine zvin Tryz.func30 Tryz.ntmps30 ?_
  repeat' (first | refine zka ?_ | refine zkb ?_ | (apply RKp.op; ((try simp (disch := (first | exact zQ | fail)) only [len_rwX lo' hA', ix_rwX lo' hA', ld_rwX lo' hA', len_rwX lo' hB', ix_rwX lo' hB', ld_rwX lo' hB', go_sem]); exact zL); rfl) | refine zkc ?_ | refine zz ?_ | refine zkd ?_ | refine zke ?_ | refine zkf ?_ | (refine RKg.split (fun h => ?_) (fun h => ?_) <;> (try rw [h]) <;> (replace h := zB h) <;> (try (exfalso; first | exact h | omega))) | refine zbt ?_ | apply V.regK | refine zva ?_ | refine zvb ?_ | refine zgc ?_ | refine zvd ?_ | refine zve ?_ | (refine zvf (fun h => ?_) (fun h => ?_) <;> (replace h := zB h) <;> (try (exfalso; first | exact h | omega))) | (refine zfc Tryz.results30 ?_; (try dsimp only)))
  · rw [frzR_v]; congr 2
    rw [eq_comm, decide_eq_false_iff_not]
    rintro rfl; simp at h
  · have hlm : l.length = l'.length := by omega
    apply V.lpF [5, 4, 11, 12, 13, 14, 15, 16, 17, 18, 19, 20, 21, 22, 23, 24, 25, 26] (fun k xs => ∃ (i : Nat) (g : _), xs = .v (.int .i64 i) :: g ∧ k = l.length - i ∧ i ≤ l.length ∧ ∀ j, j < i → l.getD j noRw = l'.getD j noRw) l.length
    focus (intro xs; simp only [putMany, set2, Nat.reduceAdd, Nat.reduceDiv, Nat.reduceMod, nth_zero, nth_succ, List.set_cons_zero, List.set_cons_succ]; rfl)
    focus (first | rfl | simp only [readMany, nth_zero, nth_succ, Nat.reduceDiv, Nat.reduceMod])
    · exact ⟨0, _, rfl, rfl, Nat.zero_le _, fun j h => absurd h (Nat.not_lt_zero _)⟩
    · rintro k xs ⟨i, g, rfl, rfl, hi, hst⟩
      have heq := fun ys (h : i < l.length) => EqRow_run (ys := ys) (lo := lo') (H := H') (wr := (l.getD i noRw).2) (wr' := (l'.getD i noRw).2) (.inl (.inl rfl)) (.inl (.inl rfl)) (hw _ (getMem noRw h)) (hw' _ (getMem noRw (hlm ▸ h)))
      repeat' (first | refine zka ?_ | refine zkb ?_ | (apply RKp.op; ((try simp (disch := (first | exact zQ | fail)) only [len_rwX lo' hA', ix_rwX lo' hA', ld_rwX lo' hA', len_rwX lo' hB', ix_rwX lo' hB', ld_rwX lo' hB', Int.toNat_natCast, go_sem]); exact zL); rfl) | (apply RKp.callR; (apply heq <;> (exact zD)); rfl; intro tr htr) | refine zkc ?_ | refine zz ?_ | refine zkd ?_ | refine zke ?_ | refine zkf ?_ | (refine RKg.split (fun h => ?_) (fun h => ?_) <;> (try rw [h]) <;> (replace h := zB h) <;> (try (exfalso; first | exact h | omega))) | refine zbt ?_ | apply V.regK | refine zva ?_ | refine zvb ?_ | refine zgc ?_ | refine zvd ?_ | refine zve ?_ | (refine zvf (fun h => ?_) (fun h => ?_) <;> (replace h := zB h) <;> (try (exfalso; first | exact h | omega))) | (refine zfc Tryz.results30 ?_; (try dsimp only)))
      all_goals first
        | (rw [frzR_v]; congr 2
           rw [eq_comm, decide_eq_false_iff_not]
           rintro rfl; simp at h)
        | (refine LoopF.again (l.length - (i + 1)) (by rfl) (by omega) ⟨i + 1, _, rfl, rfl, by omega, fun j hj => ?_⟩
           rcases Nat.lt_succ_iff_lt_or_eq.1 hj with hj | rfl
           · exact hst j hj
           · exact Prod.ext h.1 h.2)
        | (rw [frzR_v]; congr 2
           rw [eq_comm, decide_eq_true_eq]
           exact rw_extS hlm fun j h1 => hst j (by omega))
        | trace_state
end
theorem nth_set (es : List (List AV)) (i j : Nat) (x : List AV) (h : j < es.length) : nth [] (es.set i x) j = if i = j then x else nth [] es j := by
  rw [nth_getD, nth_getD, List.getD_eq_getElem?_getD, List.getElem?_set]
  split
  · rename_i e; subst e; simp [h]
  · rw [List.getD_eq_getElem?_getD]

/-- Rows in a block, their cells by names from N on, or frozen. -/
def RowsOk (H : AHeap) (N : Nat) (es : List (List AV)) (rows : List Rw) : Prop :=
  es.length = rows.length ∧ ∀ j, j < rows.length → ∃ A, nth [] es j = [A, .v (.bool (rows.getD j noRw).2)] ∧ SlH H 3 A (cesA (rows.getD j noRw).1) ∧ ∀ k, nameOf A k → N < k
theorem RowsOk.frz {H : AHeap} {N : Nat} {es : List (List AV)} {rows : List Rw} (h : RowsOk H N es rows) (hne : ∀ r ∈ rows, r.1 ≠ []) (d : Nat) : es.map (fun c => c.map (frz H (badN N []) (d + 2))) = rowsA rows := by
  obtain ⟨hl, hr⟩ := h
  apply List.ext_getElem
  · rw [List.length_map, rowsA_len]; exact hl
  intro j h1 h2
  rw [List.length_map] at h1
  have hj : j < rows.length := by omega
  obtain ⟨A, e1, e2, e3⟩ := hr j hj
  rw [List.getElem_map]
  have e4 : es[j] = [A, .v (.bool (rows.getD j noRw).2)] := by
    rw [← e1, nth_getD, List.getD_eq_getElem?_getD, List.getElem?_eq_getElem h1]; rfl
  have e5 : (rowsA rows)[j] = [.sl 3 (cesA (rows.getD j noRw).1), .v (.bool (rows.getD j noRw).2)] := by
    rw [← nth_rowsA rows j hj, nth_getD, List.getD_eq_getElem?_getD, List.getElem?_eq_getElem h2]; rfl
  rw [e4, e5, List.map_cons, List.map_cons, List.map_nil, frz_SlH e2 (ces_ne (hne _ (getMem noRw hj))) (flat_ces _) (by omega) (fun k hk => by have := e3 k hk; omega) d]
  rfl
theorem frzR_rows {H : AHeap} {N len : Nat} {es : List (List AV)} {rows : List Rw} (hg : H.get N = some ⟨48, 2, 0, es, none⟩) (h : RowsOk H N es rows) (hne : ∀ r ∈ rows, r.1 ≠ []) (hl : len = rows.length) : frzR H N (.os N 0 0 len) = .sl 2 (rowsA rows) := by
  have hb : badN N [] N = false := by
    cases hc : badN N [] N with
    | false => rfl
    | true =>
      simp only [badN, List.any_nil, Bool.or_false, Nat.blt_eq] at hc
      omega
  show (if N < N then _ else Go.Am.frz H (badN N []) 12 (.os N 0 0 len)) = _
  rw [if_neg (by omega)]
  show (if badN N [] N then AV.dead else match H.get N with
      | some b => if b.ep = 0 ∧ b.it.isNone ∧ 0 + len ≤ b.es.length ∧ 0 < b.sz then .sl b.sz (((b.es.drop 0).take len).map fun c => c.map (Go.Am.frz H (badN N []) 11)) else .dead
      | none => .dead) = _
  rw [hb, if_neg (by decide), hg]
  show (if (0 : Nat) = 0 ∧ (none : Option (ByteArray × Nat)).isNone = true ∧ 0 + len ≤ es.length ∧ 0 < 2 then AV.sl 2 (((es.drop 0).take len).map fun c => c.map (Go.Am.frz H (badN N []) 11)) else .dead) = _
  rw [if_pos ⟨rfl, rfl, by have := h.1; omega, by omega⟩, List.drop_zero, List.take_of_length_le (by have := h.1; omega), h.frz hne 9]
section
variable {ys : List (Nat × LRec)} {lo lo0 : Nat} {H : AHeap} {n m e : Nat} {s : Sc}
theorem Cursor_run (hS : SP 127 lo0 H n m e s) : CallRo (ELo oc) ys lo 49 [.op n 0 0 0] H (.agg [.v (.int .i64 s.row), .v (.int .i64 s.col)]) := by
  refine WC.pureR rfl fun lo' H' hh => ?_
  obtain ⟨rfl, rfl⟩ := two_op hh List.mem_cons_self
  have ⟨nl, ml, nn, mn, ne, hb, hm⟩ := hS
  refine zvin Tryz.func49 Tryz.ntmps49 ?_
  repeat' (first | refine zka ?_ | refine zkb ?_ | (apply RKp.op; ((try simp (disch := (first | exact zQ | fail)) only [hb, hm, nth_rowsA, rowsA_len, rowsA_set, go_sem]); exact zL); rfl) | refine zkc ?_ | refine zz ?_ | refine zkd ?_ | refine zke ?_ | refine zkf ?_ | (refine RKg.split (fun h => ?_) (fun h => ?_) <;> (try rw [h]) <;> (replace h := zB h) <;> (try (exfalso; first | exact h | omega))) | refine zbt ?_ | apply V.regK | refine zvd ?_ | refine zve ?_ | (refine zvf (fun h => ?_) (fun h => ?_) <;> (replace h := zB h) <;> (try (exfalso; first | exact h | omega))) | (refine FnQ.retB (resc Tryz.results49) (by simp (disch := (first | exact zQ | fail)) only [cellR_op, hb, hm, nth_rowsA, rowsA_len, rowsA_set, go_sem]; rfl) ?_; (try dsimp only)))
  rfl
theorem scrRows_run (hS : SP 127 lo0 H n m e s) (hg : ScG s) : CallRo (ELo oc) ys lo 54 [.op n 0 0 0] H (.sl 2 (rowsA s.rows)) := by
  refine WC.pureR rfl fun lo' H' hh => ?_
  obtain ⟨rfl, rfl⟩ := two_op hh List.mem_cons_self
  have ⟨nl, ml, nn, mn, ne, hb, hm⟩ := hS
  have h1 := hg.h1; have h2 := hg.h2; have hlen := hg.len
  have hcl := fun ys G (x : Ext H' G) => CloneR_N (ys := ys) (lo := H'.next) (H := G) (hS.slh x) (by intro h; rw [h] at hlen; simp at hlen; omega) (by omega)
  refine zvin Tryz.func54 Tryz.ntmps54 ?_
  repeat' (first | refine zka ?_ | refine zkb ?_ | (apply RKp.op; ((try simp (disch := (first | exact zQ | fail)) only [hb, hm, nth_rowsA, rowsA_len, rowsA_set, List.length_take, Nat.min_self, go_sem]); exact zL); rfl) | (apply RKp.callN; (apply hcl <;> (exact zD)); rfl; intro tr htr) | refine zkc ?_ | refine zz ?_ | refine zkd ?_ | refine zke ?_ | refine zkf ?_ | (refine RKg.split (fun h => ?_) (fun h => ?_) <;> (try rw [h]) <;> (replace h := zB h) <;> (try (exfalso; first | exact h | omega))) | refine zbt ?_ | apply V.regK | refine zvd ?_ | refine zve ?_ | (refine zvf (fun h => ?_) (fun h => ?_) <;> (replace h := zB h) <;> (try (exfalso; first | exact h | omega))) | (refine zfc Tryz.results54 ?_; (try dsimp only)))
  apply V.lpS [14, 4, 15, 16, 17, 18, 19, 20, 21, 22, 23, 24, 25, 26, 27] (fun k xs H2 => ∃ (i : Nat) (g : _) (es : List (List AV)), xs = .v (.int .i64 i) :: g ∧ k = s.rows.length - i ∧ i ≤ s.rows.length ∧ H'.next < H2.next ∧ H2.get H'.next = some ⟨48, 2, 0, es, none⟩ ∧ RowsOk H2 H'.next es s.rows) s.rows.length
  focus (intro xs; simp only [putMany, set2, Nat.reduceAdd, Nat.reduceDiv, Nat.reduceMod, nth_zero, nth_succ, List.set_cons_zero, List.set_cons_succ]; rfl)
  focus (first | rfl | simp only [readMany, nth_zero, nth_succ, Nat.reduceDiv, Nat.reduceMod])
  · exact ⟨0, _, _, rfl, rfl, Nat.zero_le _, by rw [next_push]; omega, by rw [get_push, if_pos rfl], rowsA_len _, fun j hj => ⟨_, nth_rowsA _ j hj, .inl (.inl rfl), fun k ⟨_, _, _, h⟩ => by cases h⟩⟩
  · rintro k xs H2 ⟨i, g, es, rfl, rfl, hi, hn2, g0, hle, hok⟩
    by_cases hlt : i < s.rows.length
    · obtain ⟨A, hA1, hA2, hA3⟩ := hok i hlt
      have hrw := hg.rw _ (getMem noRw hlt)
      obtain ⟨c1, c2⟩ := hrw.curl hg.w2 hg.w3
      have hc2 := fun ys => Clone_run (ys := ys) (lo := H'.next) hA2 c2 c1
      repeat' (first | refine zka ?_ | refine zkb ?_ | (apply RKp.op; ((try simp (disch := (first | exact zQ | fail)) only [g0, hA1, Int.toNat_natCast, go_sem]); exact zL); rfl) | (apply RKp.callO; (apply hc2 <;> (exact zD)); rfl; intro tr) | refine zkc ?_ | refine zz ?_ | refine zkd ?_ | refine zke ?_ | refine zkf ?_ | (refine RKg.split (fun h => ?_) (fun h => ?_) <;> (try rw [h]) <;> (replace h := zB h) <;> (try (exfalso; first | exact h | omega))) | refine zbt ?_ | apply V.regK | refine zvd ?_ | refine zve ?_ | (refine zvf (fun h => ?_) (fun h => ?_) <;> (replace h := zB h) <;> (try (exfalso; first | exact h | omega))) | (refine zfc Tryz.results54 ?_; (try dsimp only)))
      refine LoopS.again (s.rows.length - (i + 1)) (by rfl) (by omega) ⟨i + 1, _, es.set i [.os H2.next 0 0 (s.rows.getD i noRw).1.length, .v (.bool (s.rows.getD i noRw).2)], rfl, rfl, by omega, by (first | omega | (simp only [next_push, next_set, next_empty]; done) | (simp only [next_push, next_set, next_empty]; omega)), by simp (disch := (first | omega | exact zX | fail)) only [get_set, get_push, next_push, next_set, if_pos', if_neg', if_true, if_false, reduceIte], (List.length_set).trans hle, fun j hj => ?_⟩
      rw [nth_set _ _ _ _ (by omega)]
      by_cases e : i = j
      · subst e
        rw [if_pos rfl]
        refine ⟨_, rfl, .inr ⟨H2.next, 0, 0, ⟨52, 3, 0, cesA (s.rows.getD i noRw).1, none⟩, by rw [ces_len], by (first | omega | (simp only [next_push, next_set, next_empty]; done) | (simp only [next_push, next_set, next_empty]; omega)), by simp (disch := (first | omega | exact zX | fail)) only [get_set, get_push, next_push, next_set, if_pos', if_neg', if_true, if_false, reduceIte], rfl, rfl, rfl, by simp, by rw [List.drop_zero, List.take_length]⟩, fun k ⟨_, _, _, h⟩ => by cases h; omega⟩
      · rw [if_neg e]
        obtain ⟨B, hB1, hB2, hB3⟩ := hok j hj
        exact ⟨B, hB1, (((Fr.refl H2 H'.next H'.next).setn _).push _).ext hB2 (fun k hk => by have := hB3 k hk; omega), hB3⟩
    · have ei : i = s.rows.length := by omega
      subst ei
      repeat' (first | refine zka ?_ | refine zkb ?_ | (apply RKp.op; ((try simp (disch := (first | exact zQ | fail)) only [g0, go_sem]); exact zL); rfl) | refine zkc ?_ | refine zz ?_ | refine zkd ?_ | refine zke ?_ | refine zkf ?_ | (refine RKg.split (fun h => ?_) (fun h => ?_) <;> (try rw [h]) <;> (replace h := zB h) <;> (try (exfalso; first | exact h | omega))) | refine zbt ?_ | apply V.regK | refine zvd ?_ | refine zve ?_ | (refine zvf (fun h => ?_) (fun h => ?_) <;> (replace h := zB h) <;> (try (exfalso; first | exact h | omega))) | (refine zfc Tryz.results54 ?_; (try dsimp only)))
      exact frzR_rows g0 ⟨hle, hok⟩ (fun r hr => ((hg.rw r hr).curl hg.w2 hg.w3).2) rfl

end
end Go.Am
