/- Parts of the proof: PScr4 PScr5. -/
import Derived.Test.YtmcimfmibpfnhaaGreatPScr3
set_option linter.all false
set_option linter.deprecated false

namespace Go.Am
variable {oc : Orc} [OrcI oc] [OrcF oc]
open Go.Proofs
set_option maxRecDepth 8000
set_option maxHeartbeats 4000000
section
variable {ys : List (Nat × LRec)} {lo : Nat} {H : AHeap} {n m e : Nat} {s : Sc}
theorem OutS.keep {H H1 H2 : AHeap} {n m1 m2 : Nat} {x : AV} {l : List Rw} (h : OutS H H1 m1 x l) (k : Fr H1 H2 n m1 m2) (hn : n < H.next) : OutS H H2 m2 x l :=
  ⟨k.ext h.sl fun i hi => by have := h.nw i hi; exact ⟨by omega, this.2⟩, fun i hi => by
    have h1 := h.nw i hi
    refine ⟨h1.1, ?_⟩
    rcases k.nw with e | e
    · rw [e]; exact h1.2
    · rcases h.sl with (rfl | ⟨_, rfl | rfl⟩) | ⟨j, e', off, b, rfl, hj, _⟩
      · obtain ⟨_, _, _, hh⟩ := hi; cases hh
      · obtain ⟨_, _, _, hh⟩ := hi; cases hh
      · obtain ⟨_, _, _, hh⟩ := hi; cases hh
      · obtain ⟨_, _, _, hh⟩ := hi; cases hh; omega⟩
theorem controls_run (hS : SP 127 lo H n m e s) (hg : ScG s) (r : Int) : CallE (ELo oc) ys lo 122 [.op n 0 0 0, .v (.int .i32 r)] H fun x H' => ∃ m' e', SP 127 lo H' n m' e' (s.ctl r).1 ∧ Fr H H' n m m' ∧ OutS H H' m' x (s.ctl r).2 := by
  have ⟨nl, ml, nn, mn, ne, hb, hm⟩ := hS
  have w2 := hg.w2; have w3 := hg.w3; have c0 := hg.c0; have cw := hg.cw
  have hS1 := hS.turn { s with col := min s.col (s.w - 1) } rfl
  have hg1 := hg.col (c := min s.col (s.w - 1)) (by omega) (by omega)
  have hdn := fun ys => down_run (ys := ys) hS1 hg1
  have hdiv : s.col.tdiv 8 = s.col / 8 := by rw [Int.tdiv_eq_ediv_of_nonneg c0]
  refine WC.effE rfl ?_
  refine zvin Tryz.func122 Tryz.ntmps122 ?_
  repeat' (first | refine zka ?_ | refine zkb ?_ | (apply RKp.op; ((try simp (disch := (first | exact zQ | fail)) only [hb, hm, nth_rowsA, rowsA_len, rowsA_set, hdiv, go_sem]); exact zL); rfl) | (apply RKp.callE; (apply hdn <;> (exact zD)); (intro x; rfl)) | refine zkc ?_ | refine zz ?_ | refine zkd ?_ | refine zke ?_ | refine zkf ?_ | (refine RKg.split (fun h => ?_) (fun h => ?_) <;> (try rw [h]) <;> (replace h := zB h) <;> (try (exfalso; first | exact h | omega))) | refine zbt ?_ | apply V.regK | refine zva ?_ | refine zvb ?_ | refine zgc ?_ | refine zvd ?_ | refine zve ?_ | (refine zvf (fun h => ?_) (fun h => ?_) <;> (replace h := zB h) <;> (try (exfalso; first | exact h | omega))) | (refine zfc Tryz.results122 ?_; (try dsimp only)))
  · rw [show s.ctl r = (({ s with col := max (s.col - 1) 0 } : Sc), []) by unfold Sc.ctl; rw [if_pos h]]
    exact ⟨m, e, hS.turn { s with col := max (s.col - 1) 0 } rfl, (Fr.refl H n m).setn _, OutS.nil _ _ _⟩
  · rw [show s.ctl r = (({ s with col := min ((s.col / 8 + 1) * 8) (s.w - 1) } : Sc), []) by unfold Sc.ctl; rw [if_neg (by omega), if_pos h]]
    exact ⟨m, e, hS.turn { s with col := min ((s.col / 8 + 1) * 8) (s.w - 1) } rfl, (Fr.refl H n m).setn _, OutS.nil _ _ _⟩
  · rintro x H1 tr ⟨m', e', h1, h2, h3⟩
    repeat' (first | refine zka ?_ | refine zkb ?_ | (apply RKp.op; ((try simp (disch := (first | exact zQ | fail)) only [go_sem]); exact zL); rfl) | refine zkc ?_ | refine zz ?_ | refine zkd ?_ | refine zke ?_ | refine zkf ?_ | (refine RKg.split (fun h => ?_) (fun h => ?_) <;> (try rw [h]) <;> (replace h := zB h) <;> (try (exfalso; first | exact h | omega))) | refine zbt ?_ | apply V.regK | refine zva ?_ | refine zvb ?_ | refine zgc ?_ | refine zvd ?_ | refine zve ?_ | (refine zvf (fun h => ?_) (fun h => ?_) <;> (replace h := zB h) <;> (try (exfalso; first | exact h | omega))) | (refine zfc Tryz.results122 ?_; (try dsimp only)))
    rw [show s.ctl r = ({ s with col := min s.col (s.w - 1) } : Sc).dn by unfold Sc.ctl; rw [if_neg (by omega), if_neg (by omega), if_pos h]]
    exact ⟨m', e', h1, ((Fr.refl H n m).setn _).trans h2, h3.from (Nat.le_refl _)⟩
  · rw [show s.ctl r = (({ s with col := 0 } : Sc), []) by unfold Sc.ctl; rw [if_neg (by omega), if_neg (by omega), if_neg (by omega), if_pos h]]
    exact ⟨m, e, hS.turn { s with col := 0 } rfl, (Fr.refl H n m).setn _, OutS.nil _ _ _⟩
  · rw [show s.ctl r = (s, []) by unfold Sc.ctl; rw [if_neg (by omega), if_neg (by omega), if_neg (by omega), if_neg (by omega)]]
    exact ⟨m, e, hS, Fr.refl H n m, OutS.nil _ _ _⟩
theorem ofA_ne {r a : Int} (h : ofC r a ≠ []) : ofA r a = .sl 3 (cesA (ofC r a)) := Sl_ne (ofA_Sl r a) (ces_ne h)
theorem set_E (hS : SP 127 lo H n m e s) (hg : ScG s) {B : AV} {c : List Ce} (hB : SlH H 3 B (cesA c)) (hc : c.length < 2 ^ 40) : CallE (ELo oc) ys lo 156 [.op n 0 0 0, B] H fun x H' => x = .tup [] ∧ SP 127 lo H' n m e (s.put (rowSet s.cur s.col c)) ∧ Fr H H' n m m := by
  obtain ⟨tr, h⟩ := set_run (ys := ys) hS hg hB hc
  exact ⟨_, _, tr, h, rfl, hS.setm _ List.length_set, (Fr.refl H n m).setm _⟩
theorem prints_run (hS : SP 127 lo H n m e s) (hg : ScG s) (r : Int) (hr : -2147483648 ≤ r ∧ r ≤ 2147483647) : CallE (ELo oc) ys lo 121 [.op n 0 0 0, .v (.int .i32 r)] H fun x H' => ∃ m' e', SP 127 lo H' n m' e' (s.pr r).1 ∧ Fr H H' n m m' ∧ OutS H H' m' x (s.pr r).2 := by
  have ⟨nl, ml, nn, mn, ne, hb, hm⟩ := hS
  have w2 := hg.w2; have w3 := hg.w3; have c0 := hg.c0; have cw := hg.cw; have r0 := hg.r0; have rh := hg.rh; have hlen := hg.len
  have hof := ofC_len r s.attr
  have ho2 := ScG.ofC_le2 r s.attr
  have hA' : SlH H 3 (ofA r s.attr) (cesA (ofC r s.attr)) := .inl (ofA_Sl r s.attr)
  refine WC.effE rfl ?_
  by_cases hl : ofC r s.attr = []
  · have hl0 : (ofC r s.attr).length = 0 := by rw [hl]; rfl
    refine zvin Tryz.func121 Tryz.ntmps121 ?_
    repeat' (first | refine zka ?_ | refine zkb ?_ | (apply RKp.op; ((try simp (disch := (first | exact zQ | fail)) only [hb, hm, nth_rowsA, rowsA_len, rowsA_set, len_cellX lo hA', hl0, go_sem]); exact zL); rfl) | (apply RKp.call; (apply Of_run <;> (exact zD)); rfl) | refine zkc ?_ | refine zz ?_ | refine zkd ?_ | refine zke ?_ | refine zkf ?_ | (refine RKg.split (fun h => ?_) (fun h => ?_) <;> (try rw [h]) <;> (replace h := zB h) <;> (try (exfalso; first | exact h | omega))) | refine zbt ?_ | apply V.regK | refine zva ?_ | refine zvb ?_ | refine zgc ?_ | refine zvd ?_ | refine zve ?_ | (refine zvf (fun h => ?_) (fun h => ?_) <;> (replace h := zB h) <;> (try (exfalso; first | exact h | omega))) | (refine zfc Tryz.results121 ?_; (try dsimp only)))
    rw [show s.pr r = (s, []) by unfold Sc.pr; rw [if_pos hl]]
    exact ⟨m, e, hS, Fr.refl H n m, OutS.nil _ _ _⟩
  · have hl0 : (ofC r s.attr).length ≠ 0 := fun h => hl (List.eq_nil_of_length_eq_zero h)
    have hOf := fun ys H => Of_run (ys := ys) (lo := lo) (H := H) r s.attr
    rw [ofA_ne hl] at hOf
    by_cases hw : s.col + (ofC r s.attr).length ≤ s.w
    · have hset := fun ys => set_run (ys := ys) hS hg (B := .sl 3 (cesA (ofC r s.attr))) (.inl (.inl rfl)) hof
      refine zvin Tryz.func121 Tryz.ntmps121 ?_
      repeat' (first | refine zka ?_ | refine zkb ?_ | (apply RKp.op; ((try simp (disch := (first | exact zQ | fail)) only [hb, hm, nth_rowsA, rowsA_len, rowsA_set, ces_len, go_sem]); exact zL); rfl) | (apply RKp.call; (apply hOf <;> (exact zD)); rfl) | (apply RKp.callO; (apply hset <;> (exact zD)); rfl; intro tr) | refine zkc ?_ | refine zz ?_ | refine zkd ?_ | refine zke ?_ | refine zkf ?_ | (refine RKg.split (fun h => ?_) (fun h => ?_) <;> (try rw [h]) <;> (replace h := zB h) <;> (try (exfalso; first | exact h | omega))) | refine zbt ?_ | apply V.regK | refine zva ?_ | refine zvb ?_ | refine zgc ?_ | refine zvd ?_ | refine zve ?_ | (refine zvf (fun h => ?_) (fun h => ?_) <;> (replace h := zB h) <;> (try (exfalso; first | exact h | omega))) | (refine zfc Tryz.results121 ?_; (try dsimp only)))
      rw [show s.pr r = (s.signs (ofC r s.attr), []) by unfold Sc.pr; rw [if_neg hl, if_pos hw]]
      exact ⟨m, e, (hS.setm _ (List.length_set)).turnL (s.signs (ofC r s.attr)) rfl _ List.length_set, ((Fr.refl H n m).setm _).setn _, OutS.nil _ _ _⟩
    · have hcw : s.col = s.w - 1 ∨ s.col = s.w := by omega
      have hpd := fun ys => set_E (ys := ys) (hS.ext ((Ext.refl H).push ⟨52, 3, 0, [ceA padC], none⟩)) hg (B := .os H.next 0 0 1) (c := [padC]) (.inr ⟨H.next, 0, 0, _, rfl, by rw [next_push]; omega, by rw [get_push, if_pos rfl], rfl, rfl, rfl, by simp, by simp⟩) (by simp)
      have hdn0 := fun ys => down_run (ys := ys) (hS.setm (s.rows.set s.row.toNat (s.cur.1, true)) List.length_set) (hg.put (hg.at_.wr true))
      have hpr : s.pr r = (s.wrapped.1.signs (ofC r s.attr), s.wrapped.2) := by unfold Sc.pr; rw [if_neg hl, if_neg hw]
      rw [hpr]
      unfold Sc.wrapped
      dsimp only
      refine zvin Tryz.func121 Tryz.ntmps121 ?_
      repeat' (first | refine zka ?_ | refine zkb ?_ | (apply RKp.op; ((try simp (disch := (first | exact zQ | fail)) only [hb, hm, nth_rowsA, rowsA_len, rowsA_set, ces_len, go_sem]); exact zL); rfl) | (apply RKp.call; ((first | apply hOf | apply Pad_run) <;> (exact zD)); rfl) | (apply RKp.callE; ((first | apply hpd | apply hdn0) <;> (exact zD)); (intro x; rfl)) | refine zkc ?_ | refine zz ?_ | refine zkd ?_ | refine zke ?_ | refine zkf ?_ | (refine RKg.split (fun h => ?_) (fun h => ?_) <;> (try rw [h]) <;> (replace h := zB h) <;> (try (exfalso; first | exact h | omega))) | refine zbt ?_ | apply V.regK | refine zva ?_ | refine zvb ?_ | refine zgc ?_ | refine zvd ?_ | refine zve ?_ | (refine zvf (fun h => ?_) (fun h => ?_) <;> (replace h := zB h) <;> (try (exfalso; first | exact h | omega))) | (refine zfc Tryz.results121 ?_; (try dsimp only)))
      · rw [if_pos (by omega)]
        rintro x H1 tr ⟨rfl, hS1, hF1⟩
        have hF1' : Fr H H1 n m m := ((Fr.refl H n m).push _).trans hF1
        have hg1 := hg.put (hg.at_.set R32_pad s.col)
        generalize hs1 : s.put (rowSet s.cur s.col [padC]) = s1 at *
        have ew : s1.w = s.w := by rw [← hs1]; rfl
        have ea : s1.attr = s.attr := by rw [← hs1]; rfl
        have hb1 := hS1.blk; have hm1 := hS1.rows
        have nn1 := hS1.nn; have mn1 := hS1.mn
        have r01 := hg1.r0; have rh1 := hg1.rh; have hlen1 := hg1.len
        have hdn1 := fun ys => down_run (ys := ys) (hS1.setm (s1.rows.set s1.row.toNat (s1.cur.1, true)) List.length_set) (hg1.put (hg1.at_.wr true))
        repeat' (first | refine zka ?_ | refine zkb ?_ | (apply RKp.op; ((try simp (disch := (first | exact zQ | fail)) only [hb1, hm1, nth_rowsA, rowsA_len, rowsA_set, go_sem]); exact zL); rfl) | (apply RKp.callE; (apply hdn1 <;> (exact zD)); (intro x; rfl)) | refine zkc ?_ | refine zz ?_ | refine zkd ?_ | refine zke ?_ | refine zkf ?_ | (refine RKg.split (fun h => ?_) (fun h => ?_) <;> (try rw [h]) <;> (replace h := zB h) <;> (try (exfalso; first | exact h | omega))) | refine zbt ?_ | apply V.regK | refine zva ?_ | refine zvb ?_ | refine zgc ?_ | refine zvd ?_ | refine zve ?_ | (refine zvf (fun h => ?_) (fun h => ?_) <;> (replace h := zB h) <;> (try (exfalso; first | exact h | omega))) | (refine zfc Tryz.results121 ?_; (try dsimp only)))
        rintro x H2 tr2 ⟨m2, e2, hS2, hF2, hO2⟩
        change SP _ _ _ _ _ _ (Sc.put s1 (Sc.cur s1 |>.1, true)).dn.1 at hS2
        change OutS _ _ _ _ (Sc.put s1 (Sc.cur s1 |>.1, true)).dn.2 at hO2
        obtain ⟨hgd, hod, edw, edh, eda, edc⟩ := (hg1.put (hg1.at_.wr true)).dn
        generalize (Sc.put s1 (Sc.cur s1 |>.1, true)).dn = t at *
        obtain ⟨t, o⟩ := t
        dsimp only at *
        have hS3 := hS2.turn { t with col := 0 } rfl
        have hg3 := hgd.col (c := 0) (Int.le_refl _) (by have := hgd.w2; omega)
        have hset3 := fun ys => set_run (ys := ys) hS3 hg3 (B := .sl 3 (cesA (ofC r s.attr))) (.inl (.inl rfl)) hof
        have hb2 := hS2.blk; have hm2 := hS2.rows
        have nn2 := hS2.nn; have mn2 := hS2.mn; have ne2 := hS2.ne; have nl2 := hS2.nl; have ml2 := hS2.ml
        repeat' (first | refine zka ?_ | refine zkb ?_ | (apply RKp.op; ((try simp (disch := (first | exact zQ | fail)) only [hb2, hm2, ces_len, Int.zero_add, go_sem]); exact zL); rfl) | (apply RKp.callO; (apply hset3 <;> (exact zD)); rfl; intro tr) | refine zkc ?_ | refine zz ?_ | refine zkd ?_ | refine zke ?_ | refine zkf ?_ | (refine RKg.split (fun h => ?_) (fun h => ?_) <;> (try rw [h]) <;> (replace h := zB h) <;> (try (exfalso; first | exact h | omega))) | refine zbt ?_ | apply V.regK | refine zva ?_ | refine zvb ?_ | refine zgc ?_ | refine zvd ?_ | refine zve ?_ | (refine zvf (fun h => ?_) (fun h => ?_) <;> (replace h := zB h) <;> (try (exfalso; first | exact h | omega))) | (refine zfc Tryz.results121 ?_; (try dsimp only)))
        have hS4 := (hS3.setm (t.rows.set t.row.toNat (rowSet ({ t with col := 0 } : Sc).cur 0 (ofC r s.attr))) List.length_set).turnL (({ t with col := 0 } : Sc).signs (ofC r s.attr)) rfl _ List.length_set
        rw [show (({ t with col := 0 } : Sc).signs (ofC r s.attr)).col = (ofC r s.attr).length from Int.zero_add _] at hS4
        have hFa := hF1'.trans (((Fr.refl H1 n m).setm _).trans hF2)
        refine ⟨m2, e2, hS4, ((hFa.setn _).setm _).setn _, ((hO2.keep (((Fr.refl H2 n m2).setn _).setm _ |>.setn _) ?_).from ?_)⟩
        · rw [next_set]; have := hF1'.next; omega
        · rw [next_set]; exact hF1'.next
      · rw [if_neg (by omega)]
        rintro x H2 tr2 ⟨m2, e2, hS2, hF2, hO2⟩
        change SP _ _ _ _ _ _ (Sc.put s (Sc.cur s |>.1, true)).dn.1 at hS2
        change OutS _ _ _ _ (Sc.put s (Sc.cur s |>.1, true)).dn.2 at hO2
        obtain ⟨hgd, hod, edw, edh, eda, edc⟩ := (hg.put (hg.at_.wr true)).dn
        generalize (Sc.put s (Sc.cur s |>.1, true)).dn = t at *
        obtain ⟨t, o⟩ := t
        dsimp only at *
        have hS3 := hS2.turn { t with col := 0 } rfl
        have hg3 := hgd.col (c := 0) (Int.le_refl _) (by have := hgd.w2; omega)
        have hset3 := fun ys => set_run (ys := ys) hS3 hg3 (B := .sl 3 (cesA (ofC r s.attr))) (.inl (.inl rfl)) hof
        have hb2 := hS2.blk; have hm2 := hS2.rows
        have nn2 := hS2.nn; have mn2 := hS2.mn; have ne2 := hS2.ne; have nl2 := hS2.nl; have ml2 := hS2.ml
        repeat' (first | refine zka ?_ | refine zkb ?_ | (apply RKp.op; ((try simp (disch := (first | exact zQ | fail)) only [hb2, hm2, ces_len, Int.zero_add, go_sem]); exact zL); rfl) | (apply RKp.callO; (apply hset3 <;> (exact zD)); rfl; intro tr) | refine zkc ?_ | refine zz ?_ | refine zkd ?_ | refine zke ?_ | refine zkf ?_ | (refine RKg.split (fun h => ?_) (fun h => ?_) <;> (try rw [h]) <;> (replace h := zB h) <;> (try (exfalso; first | exact h | omega))) | refine zbt ?_ | apply V.regK | refine zva ?_ | refine zvb ?_ | refine zgc ?_ | refine zvd ?_ | refine zve ?_ | (refine zvf (fun h => ?_) (fun h => ?_) <;> (replace h := zB h) <;> (try (exfalso; first | exact h | omega))) | (refine zfc Tryz.results121 ?_; (try dsimp only)))
        have hS4 := (hS3.setm (t.rows.set t.row.toNat (rowSet ({ t with col := 0 } : Sc).cur 0 (ofC r s.attr))) List.length_set).turnL (({ t with col := 0 } : Sc).signs (ofC r s.attr)) rfl _ List.length_set
        rw [show (({ t with col := 0 } : Sc).signs (ofC r s.attr)).col = (ofC r s.attr).length from Int.zero_add _] at hS4
        have hFa := (Fr.refl H n m).trans (((Fr.refl H n m).setm _).trans hF2)
        refine ⟨m2, e2, hS4, ((hFa.setn _).setm _).setn _, ((hO2.keep (((Fr.refl H2 n m2).setn _).setm _ |>.setn _) ?_).from ?_)⟩
        · rw [next_set]; have := (Fr.refl H n m).next; omega
        · rw [next_set]; exact (Fr.refl H n m).next
end
end Go.Am

namespace Go.Am
variable {oc : Orc} [OrcI oc] [OrcF oc]
open Go.Proofs
set_option maxRecDepth 8000
set_option maxHeartbeats 4000000
abbrev evk (k r : Int) (A : AV) (t : ByteArray) : Blk := ⟨121, 4, 0, [[.v (.int .i64 k), .v (.int .i32 r), A, .v (.string t)]], none⟩
section
variable {ys : List (Nat × LRec)} {lo : Nat} {H : AHeap} {n m e : Nat} {s : Sc} {A : AV} {a : List Int}
theorem argI_hi {a : List Int} (h : ∀ x ∈ a, x ≤ 9999) (i : Nat) : argI a i 1 ≤ 9999 := by
  unfold argI
  split
  · omega
  · rename_i hne
    rcases Nat.lt_or_ge i a.length with hi | hi
    · exact h _ (getMem 0 hi)
    · exact absurd (by simp [List.getD_eq_getElem?_getD, List.getElem?_eq_none hi]) hne
theorem moves_run (hS : SP 127 lo H n m e s) (hg : ScG s) (hcw : s.col < s.w) (k r : Int) (t : ByteArray) (hA : SlH H 1 A (ints a)) (hl : a.length < 2 ^ 40) (ha : ∀ x ∈ a, 0 ≤ x ∧ x ≤ 9999) : CallE (ELo oc) ys lo 160 [.op n 0 0 0, .agg [.v (.int .i64 k), .v (.int .i32 r), A, .v (.string t)]] H fun x H' => x = .tup [] ∧ SP 127 lo H' n m e (s.mov r a) ∧ Fr H H' n m m := by
  have ⟨nl, ml, nn, mn, ne, hb, hm⟩ := hS
  have w2 := hg.w2; have w3 := hg.w3; have c0 := hg.c0; have cw := hg.cw; have r0 := hg.r0; have rh := hg.rh; have h2 := hg.h2
  have p0 := ScG.argI_pos (fun x hx => (ha x hx).1) 0; have p1 := ScG.argI_pos (fun x hx => (ha x hx).1) 1
  have q0 := argI_hi (fun x hx => (ha x hx).2) 0; have q1 := argI_hi (fun x hx => (ha x hx).2) 1
  have hS1 := hS.ext ((Ext.refl H).push (evk k r A t))
  have hct := cells_SlH hA
  have hnu := fun ys G (x : Ext H G) (i : Int) => number_R (ys := ys) (lo := lo) (H := G) (hA.ext x) hl k r t i 1
  have key : ∀ R C : Int, s.mov r a = { s with row := R, col := C } → SP 127 lo ((H.set n ⟨127, 6, 0, [[.v (.int .i64 s.w), .v (.int .i64 s.h), .os m e 0 s.rows.length, .v (.int .i64 R), .v (.int .i64 C), .v (.int .i64 s.attr)]], none⟩).push (evk k r A t)) n m e (s.mov r a) := fun R C h => by
    rw [h]; exact (hS.turn { s with row := R, col := C } rfl).ext ((Ext.refl _).push _)
  refine WC.effE rfl ?_
  refine zvin Tryz.func160 Tryz.ntmps160 ?_
  repeat' (first | refine zka ?_ | refine zkb ?_ | (apply RKp.op; ((try simp (disch := (first | exact zQ | fail)) only [hb, hm, nth_rowsA, rowsA_len, rowsA_set, hct, Int.toNat_zero, Int.toNat_one, go_sem]); exact zL); rfl) | (apply RKp.call; (apply within_run <;> (exact zD)); rfl) | (apply RKp.callR; (apply hnu <;> (exact zD)); rfl; intro tr htr) | refine zkc ?_ | refine zz ?_ | refine zkd ?_ | refine zke ?_ | refine zkf ?_ | (refine RKg.split (fun h => ?_) (fun h => ?_) <;> (try rw [h]) <;> (replace h := zB h) <;> (try (exfalso; first | exact h | omega))) | refine zbt ?_ | apply V.regK | refine zva ?_ | refine zvb ?_ | refine zgc ?_ | refine zvd ?_ | refine zve ?_ | (refine zvf (fun h => ?_) (fun h => ?_) <;> (replace h := zB h) <;> (try (exfalso; first | exact h | omega))) | (refine zfa Tryz.results160 ?_; (try dsimp only)) | (refine zfb Tryz.results160 ?_; (try dsimp only)))
  all_goals
    refine ⟨rfl, key _ _ ?_, ((Fr.refl H n m).setn _).push _⟩
    unfold Sc.mov
    (repeat' split) <;> first
      | omega
      | (congr 1 <;> omega)
      | (have e1 : min (max s.row 0) (s.h - 1) = s.row := by omega
         have e2 : min (max s.col 0) (s.w - 1) = s.col := by omega
         rw [e1, e2])

theorem ScG.tab (hg : ScG s) {rs : List Rw} (hl : rs.length = s.rows.length) (hr : ∀ j, j < rs.length → RwG s.w (rs.getD j noRw)) : ScG { s with rows := rs } :=
  ⟨hg.w2, hg.w3, hg.h1, hg.h2, by show (rs.length : Int) = _; rw [hl]; exact hg.len, fun x hx => by
    obtain ⟨j, hj, rfl⟩ := List.mem_iff_getElem.1 hx
    have := hr j hj
    rw [List.getD_eq_getElem?_getD, List.getElem?_eq_getElem hj] at this
    exact this, hg.r0, hg.rh, hg.c0, hg.cw, hg.a0, hg.a1⟩
theorem rw_ext {l l' : List Rw} (h : l.length = l'.length) (he : ∀ j, j < l.length → l.getD j noRw = l'.getD j noRw) : l = l' := by
  apply List.ext_getElem h
  intro i h1 h2
  have := he i h1
  simpa [List.getD_eq_getElem?_getD, List.getElem?_eq_getElem h1, List.getElem?_eq_getElem h2] using this
theorem getD_rset (l : List Rw) (i j : Nat) (c : Rw) (h : j < l.length) : (l.set i c).getD j noRw = if i = j then c else l.getD j noRw := by
  rw [List.getD_eq_getElem?_getD, List.getElem?_set]
  split
  · rename_i e; subst e; simp [h]
  · rw [List.getD_eq_getElem?_getD]
theorem clr_at (s : Sc) (how : Int) (all : Bool) (j : Nat) (h : j < s.rows.length) : (s.clr how all).rows.getD j noRw = clr1 how all s.w s.row s.col j (s.rows.getD j noRw) := by
  simp [Sc.clr, List.getD_eq_getElem?_getD, h]
theorem clr_len (s : Sc) (how : Int) (all : Bool) : (s.clr how all).rows.length = s.rows.length := by simp [Sc.clr]

/-- What the rows are, i of them gone through. -/
def clrTo (s : Sc) (how : Int) (all : Bool) (i j : Nat) : Rw :=
  if (j : Int) = s.row ∨ j < i then clr1 how all s.w s.row s.col j (s.rows.getD j noRw) else s.rows.getD j noRw
theorem clears_run (hS : SP 127 lo H n m e s) (hg : ScG s) (hcw : s.col < s.w) (how : Int) (all : Bool) : CallE (ELo oc) ys lo 158 [.op n 0 0 0, .v (.int .i64 how), .v (.bool all)] H fun x H' => x = .tup [] ∧ SP 127 lo H' n m e (s.clr how all) ∧ Fr H H' n m m := by
  have ⟨nl, ml, nn, mn, ne, hb, hm⟩ := hS
  have w2 := hg.w2; have w3 := hg.w3; have c0 := hg.c0; have cw := hg.cw; have r0 := hg.r0; have rh := hg.rh; have h2 := hg.h2; have hlen := hg.len
  refine WC.effE rfl ?_
  have her := fun ys a b (ha : 0 ≤ a ∧ a ≤ 300) (hbb : 0 ≤ b ∧ b ≤ 300) => erase_run (ys := ys) hS hg s.row.toNat hg.lt a b (by omega) (by omega)
  rw [show ((s.row.toNat : Nat) : Int) = s.row by omega] at her
  refine zvin Tryz.func158 Tryz.ntmps158 ?_
  repeat' (first | refine zka ?_ | refine zkb ?_ | (apply RKp.op; ((try simp (disch := (first | exact zQ | fail)) only [hb, hm, nth_rowsA, rowsA_len, rowsA_set, go_sem]); exact zL); rfl) | (apply RKp.callO; (apply her <;> (exact zD)); rfl; intro tr) | refine zkc ?_ | refine zz ?_ | refine zkd ?_ | refine zke ?_ | refine zkf ?_ | (refine RKg.split (fun h => ?_) (fun h => ?_) <;> (try rw [h]) <;> (replace h := zB h) <;> (try (exfalso; first | exact h | omega))) | refine zbt ?_ | apply V.regK | refine zva ?_ | refine zvb ?_ | refine zgc ?_ | refine zvd ?_ | refine zve ?_ | (refine zvf (fun h => ?_) (fun h => ?_) <;> (replace h := zB h) <;> (try (exfalso; first | exact h | omega))) | (refine zfa Tryz.results158 ?_; (try dsimp only)) | (refine zfb Tryz.results158 ?_; (try dsimp only)))
  ·
    apply V.lpS [48, 10, 49, 50, 51, 52, 53, 54, 55, 56, 57, 58, 59, 60, 61, 62, 63, 64, 65, 66, 67, 68, 69, 70, 71, 72, 73, 74, 75, 76, 77, 78, 79, 80] (fun k xs H2 => ∃ (i : Nat) (g : _) (rs : List Rw), xs = .v (.int .i64 i) :: g ∧ k = s.rows.length - i ∧ i ≤ s.rows.length ∧ rs.length = s.rows.length ∧ (∀ j, j < rs.length → rs.getD j noRw = clrTo s how all i j) ∧ SP 127 lo H2 n m e { s with rows := rs } ∧ Fr H H2 n m m) s.rows.length
    focus (intro xs; simp only [putMany, set2, Nat.reduceAdd, Nat.reduceDiv, Nat.reduceMod, nth_zero, nth_succ, List.set_cons_zero, List.set_cons_succ]; rfl)
    focus (first | rfl | simp only [readMany, nth_zero, nth_succ, Nat.reduceDiv, Nat.reduceMod])
    · refine ⟨0, _, _, rfl, rfl, Nat.zero_le _, List.length_set, ?_, hS.setm _ List.length_set, (Fr.refl H n m).setm _⟩
      intro j hj
      rw [List.length_set] at hj
      rw [getD_rset _ _ _ _ hj]
      unfold clrTo clr1
      first
      | (grind)
      | trace_state
    · rintro k xs H2 ⟨i, g, rs, rfl, rfl, hi, hrl, hrs, hS2, hF2⟩
      have hg2 : ScG ({ s with rows := rs } : Sc) := hg.tab hrl fun j hj => by
        rw [hrs j hj]; unfold clrTo; split
        · exact ScG.clr1G (hg.rw _ (getMem noRw (by omega))) _ _ _ _ _ _
        · exact hg.rw _ (getMem noRw (by omega))
      have hb2 := hS2.blk; have hm2 := hS2.rows; dsimp only at hb2 hm2
      have nn2 := hS2.nn; have mn2 := hS2.mn
      have her2 := fun ys (hl : i < rs.length) => erase_run (ys := ys) hS2 hg2 i hl 0 s.w (by omega) (by omega)
      repeat' (first | refine zka ?_ | refine zkb ?_ | (apply RKp.op; ((try simp (disch := (first | exact zQ | fail)) only [hb2, go_sem]); exact zL); rfl) | (apply RKp.callO; (apply her2 <;> (exact zD)); rfl; intro tr) | refine zkc ?_ | refine zz ?_ | refine zkd ?_ | refine zke ?_ | refine zkf ?_ | (refine RKg.split (fun h => ?_) (fun h => ?_) <;> (try rw [h]) <;> (replace h := zB h) <;> (try (exfalso; first | exact h | omega))) | refine zbt ?_ | apply V.regK | refine zva ?_ | refine zvb ?_ | refine zgc ?_ | refine zvd ?_ | refine zve ?_ | (refine zvf (fun h => ?_) (fun h => ?_) <;> (replace h := zB h) <;> (try (exfalso; first | exact h | omega))) | (refine zfa Tryz.results158 ?_; (try dsimp only)) | (refine zfb Tryz.results158 ?_; (try dsimp only)))
      all_goals first
        | (refine LoopS.again (s.rows.length - (i + 1)) (by rfl) (by omega) ⟨i + 1, _, _, rfl, rfl, by omega, (List.length_set).trans hrl, ?_, hS2.setm _ List.length_set, hF2.setm _⟩
           intro j hj
           rw [List.length_set] at hj
           rw [getD_rset _ _ _ _ hj, hrs j hj]
           by_cases e : i = j
           · subst e; rw [if_pos rfl, hrs i hj]; unfold clrTo clr1; grind
           · rw [if_neg e]; unfold clrTo; grind)
        | (refine LoopS.again (s.rows.length - (i + 1)) (by rfl) (by omega) ⟨i + 1, _, rs, rfl, rfl, by omega, hrl, ?_, hS2, hF2⟩
           intro j hj
           rw [hrs j hj]; unfold clrTo clr1; grind)
        | (refine ⟨rfl, ?_, hF2⟩
           have : rs = (s.clr how all).rows := rw_ext (by rw [clr_len]; exact hrl) fun j hj => by rw [hrs j hj, clr_at _ _ _ _ (by omega)]; unfold clrTo; rw [if_pos (.inr (by omega))]
           rw [this] at hS2; exact hS2)
        | trace_state
  ·
    apply V.lpS [48, 10, 49, 50, 51, 52, 53, 54, 55, 56, 57, 58, 59, 60, 61, 62, 63, 64, 65, 66, 67, 68, 69, 70, 71, 72, 73, 74, 75, 76, 77, 78, 79, 80] (fun k xs H2 => ∃ (i : Nat) (g : _) (rs : List Rw), xs = .v (.int .i64 i) :: g ∧ k = s.rows.length - i ∧ i ≤ s.rows.length ∧ rs.length = s.rows.length ∧ (∀ j, j < rs.length → rs.getD j noRw = clrTo s how all i j) ∧ SP 127 lo H2 n m e { s with rows := rs } ∧ Fr H H2 n m m) s.rows.length
    focus (intro xs; simp only [putMany, set2, Nat.reduceAdd, Nat.reduceDiv, Nat.reduceMod, nth_zero, nth_succ, List.set_cons_zero, List.set_cons_succ]; rfl)
    focus (first | rfl | simp only [readMany, nth_zero, nth_succ, Nat.reduceDiv, Nat.reduceMod])
    · refine ⟨0, _, _, rfl, rfl, Nat.zero_le _, List.length_set, ?_, hS.setm _ List.length_set, (Fr.refl H n m).setm _⟩
      intro j hj
      rw [List.length_set] at hj
      rw [getD_rset _ _ _ _ hj]
      unfold clrTo clr1
      first
      | (grind)
      | trace_state
    · rintro k xs H2 ⟨i, g, rs, rfl, rfl, hi, hrl, hrs, hS2, hF2⟩
      have hg2 : ScG ({ s with rows := rs } : Sc) := hg.tab hrl fun j hj => by
        rw [hrs j hj]; unfold clrTo; split
        · exact ScG.clr1G (hg.rw _ (getMem noRw (by omega))) _ _ _ _ _ _
        · exact hg.rw _ (getMem noRw (by omega))
      have hb2 := hS2.blk; have hm2 := hS2.rows; dsimp only at hb2 hm2
      have nn2 := hS2.nn; have mn2 := hS2.mn
      have her2 := fun ys (hl : i < rs.length) => erase_run (ys := ys) hS2 hg2 i hl 0 s.w (by omega) (by omega)
      repeat' (first | refine zka ?_ | refine zkb ?_ | (apply RKp.op; ((try simp (disch := (first | exact zQ | fail)) only [hb2, go_sem]); exact zL); rfl) | (apply RKp.callO; (apply her2 <;> (exact zD)); rfl; intro tr) | refine zkc ?_ | refine zz ?_ | refine zkd ?_ | refine zke ?_ | refine zkf ?_ | (refine RKg.split (fun h => ?_) (fun h => ?_) <;> (try rw [h]) <;> (replace h := zB h) <;> (try (exfalso; first | exact h | omega))) | refine zbt ?_ | apply V.regK | refine zva ?_ | refine zvb ?_ | refine zgc ?_ | refine zvd ?_ | refine zve ?_ | (refine zvf (fun h => ?_) (fun h => ?_) <;> (replace h := zB h) <;> (try (exfalso; first | exact h | omega))) | (refine zfa Tryz.results158 ?_; (try dsimp only)) | (refine zfb Tryz.results158 ?_; (try dsimp only)))
      all_goals first
        | (refine LoopS.again (s.rows.length - (i + 1)) (by rfl) (by omega) ⟨i + 1, _, _, rfl, rfl, by omega, (List.length_set).trans hrl, ?_, hS2.setm _ List.length_set, hF2.setm _⟩
           intro j hj
           rw [List.length_set] at hj
           rw [getD_rset _ _ _ _ hj, hrs j hj]
           by_cases e : i = j
           · subst e; rw [if_pos rfl, hrs i hj]; unfold clrTo clr1; grind
           · rw [if_neg e]; unfold clrTo; grind)
        | (refine LoopS.again (s.rows.length - (i + 1)) (by rfl) (by omega) ⟨i + 1, _, rs, rfl, rfl, by omega, hrl, ?_, hS2, hF2⟩
           intro j hj
           rw [hrs j hj]; unfold clrTo clr1; grind)
        | (refine ⟨rfl, ?_, hF2⟩
           have : rs = (s.clr how all).rows := rw_ext (by rw [clr_len]; exact hrl) fun j hj => by rw [hrs j hj, clr_at _ _ _ _ (by omega)]; unfold clrTo; rw [if_pos (.inr (by omega))]
           rw [this] at hS2; exact hS2)
        | trace_state
  ·
    apply V.lpS [48, 10, 49, 50, 51, 52, 53, 54, 55, 56, 57, 58, 59, 60, 61, 62, 63, 64, 65, 66, 67, 68, 69, 70, 71, 72, 73, 74, 75, 76, 77, 78, 79, 80] (fun k xs H2 => ∃ (i : Nat) (g : _) (rs : List Rw), xs = .v (.int .i64 i) :: g ∧ k = s.rows.length - i ∧ i ≤ s.rows.length ∧ rs.length = s.rows.length ∧ (∀ j, j < rs.length → rs.getD j noRw = clrTo s how all i j) ∧ SP 127 lo H2 n m e { s with rows := rs } ∧ Fr H H2 n m m) s.rows.length
    focus (intro xs; simp only [putMany, set2, Nat.reduceAdd, Nat.reduceDiv, Nat.reduceMod, nth_zero, nth_succ, List.set_cons_zero, List.set_cons_succ]; rfl)
    focus (first | rfl | simp only [readMany, nth_zero, nth_succ, Nat.reduceDiv, Nat.reduceMod])
    · refine ⟨0, _, _, rfl, rfl, Nat.zero_le _, List.length_set, ?_, hS.setm _ List.length_set, (Fr.refl H n m).setm _⟩
      intro j hj
      rw [List.length_set] at hj
      rw [getD_rset _ _ _ _ hj]
      unfold clrTo clr1
      first
      | (grind)
      | trace_state
    · rintro k xs H2 ⟨i, g, rs, rfl, rfl, hi, hrl, hrs, hS2, hF2⟩
      have hg2 : ScG ({ s with rows := rs } : Sc) := hg.tab hrl fun j hj => by
        rw [hrs j hj]; unfold clrTo; split
        · exact ScG.clr1G (hg.rw _ (getMem noRw (by omega))) _ _ _ _ _ _
        · exact hg.rw _ (getMem noRw (by omega))
      have hb2 := hS2.blk; have hm2 := hS2.rows; dsimp only at hb2 hm2
      have nn2 := hS2.nn; have mn2 := hS2.mn
      have her2 := fun ys (hl : i < rs.length) => erase_run (ys := ys) hS2 hg2 i hl 0 s.w (by omega) (by omega)
      repeat' (first | refine zka ?_ | refine zkb ?_ | (apply RKp.op; ((try simp (disch := (first | exact zQ | fail)) only [hb2, go_sem]); exact zL); rfl) | (apply RKp.callO; (apply her2 <;> (exact zD)); rfl; intro tr) | refine zkc ?_ | refine zz ?_ | refine zkd ?_ | refine zke ?_ | refine zkf ?_ | (refine RKg.split (fun h => ?_) (fun h => ?_) <;> (try rw [h]) <;> (replace h := zB h) <;> (try (exfalso; first | exact h | omega))) | refine zbt ?_ | apply V.regK | refine zva ?_ | refine zvb ?_ | refine zgc ?_ | refine zvd ?_ | refine zve ?_ | (refine zvf (fun h => ?_) (fun h => ?_) <;> (replace h := zB h) <;> (try (exfalso; first | exact h | omega))) | (refine zfa Tryz.results158 ?_; (try dsimp only)) | (refine zfb Tryz.results158 ?_; (try dsimp only)))
      all_goals first
        | (refine LoopS.again (s.rows.length - (i + 1)) (by rfl) (by omega) ⟨i + 1, _, _, rfl, rfl, by omega, (List.length_set).trans hrl, ?_, hS2.setm _ List.length_set, hF2.setm _⟩
           intro j hj
           rw [List.length_set] at hj
           rw [getD_rset _ _ _ _ hj, hrs j hj]
           by_cases e : i = j
           · subst e; rw [if_pos rfl, hrs i hj]; unfold clrTo clr1; grind
           · rw [if_neg e]; unfold clrTo; grind)
        | (refine LoopS.again (s.rows.length - (i + 1)) (by rfl) (by omega) ⟨i + 1, _, rs, rfl, rfl, by omega, hrl, ?_, hS2, hF2⟩
           intro j hj
           rw [hrs j hj]; unfold clrTo clr1; grind)
        | (refine ⟨rfl, ?_, hF2⟩
           have : rs = (s.clr how all).rows := rw_ext (by rw [clr_len]; exact hrl) fun j hj => by rw [hrs j hj, clr_at _ _ _ _ (by omega)]; unfold clrTo; rw [if_pos (.inr (by omega))]
           rw [this] at hS2; exact hS2)
        | trace_state
  · have e : s.clr how all = s := by
      have h1 : (s.clr how all).rows = s.rows := rw_ext (clr_len s how all) fun j hj => by
        rw [clr_len] at hj
        rw [clr_at _ _ _ _ hj]; unfold clr1; grind
      unfold Sc.clr at *
      dsimp only at h1
      rw [h1]
    rw [e]
    exact ⟨rfl, hS, Fr.refl _ _ _⟩
end
end Go.Am
