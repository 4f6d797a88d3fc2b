
/- Lines: the program's places. -/
import Derived.Test.YtmcimfmibpfnhaaGreatRLinF
set_option linter.all false
set_option linter.deprecated false
namespace Go.Am
variable {oc : Orc} [OrcI oc]
open Go.Proofs
set_option maxRecDepth 8000
set_option maxHeartbeats 8000000
theorem posA_bd (w : Nat) (hw2 : 2 ≤ w) : ∀ (l : List Ce) (r col k : Nat), lineG l → col ≤ w → (posA w r col l k).1 ≤ r + l.length ∧ (posA w r col l k).2 ≤ w
  | [], r, col, k, _, h => by cases k <;> exact ⟨Nat.le_refl _, h⟩
  | c :: l, r, col, 0, hg, h => by
    have e : posA w r col (c :: l) 0 = if w < col + c.w.toNat then (r + 1, 0) else (r, col) := rfl
    rw [e, List.length_cons]
    split
    · exact ⟨by dsimp only; omega, Nat.zero_le _⟩
    · exact ⟨by dsimp only; omega, h⟩
  | c :: l, r, col, k + 1, hg, h => by
    have hcw := (hg c List.mem_cons_self).w
    have hgl : lineG l := fun x hx => hg x (List.mem_cons_of_mem _ hx)
    have e : posA w r col (c :: l) (k + 1) = if w < col + c.w.toNat then posA w (r + 1) c.w.toNat l k else posA w r (col + c.w.toNat) l k := rfl
    rw [e, List.length_cons]
    split
    · have := posA_bd w hw2 l (r + 1) c.w.toNat k hgl (by omega); exact ⟨by omega, this.2⟩
    · have := posA_bd w hw2 l r (col + c.w.toNat) k hgl (by omega); exact ⟨by omega, this.2⟩
section
variable {ys : List (Nat × LRec)} {lo : Nat} {H : AHeap} {A : AV} {es : List (List AV)} {ls : List (List Ce)} {rows : List Rw}
abbrev spBlk (a b c : Int) : Blk := ⟨27, 3, 0, [[.v (.int .i64 a), .v (.int .i64 b), .v (.int .i64 c)]], none⟩
abbrev poBlk (a b : Int) : Blk := ⟨25, 2, 0, [[.v (.int .i64 a), .v (.int .i64 b)]], none⟩
theorem Place_run (hA : SlH H 1 A es) (hr : LsP es ls) (hls : ls.length < 2 ^ 30) (hln : ∀ j, j < ls.length → (ls.getD j []).length < 2 ^ 30) (w line off past : Int) (hb : (allL ls w).length < 2 ^ 40) (hw : -9223372036854775808 ≤ w ∧ w ≤ 9223372036854775807) (hp : past ≤ 2 ^ 62) : CallRo (ELo oc) ys lo 33 [A, .v (.int .i64 w), .agg [.v (.int .i64 line), .v (.int .i64 off), .v (.int .i64 past)]] H (.agg [.v (.int .i64 ((placeL ls w line off past).1 : Nat)), .v (.int .i64 ((placeL ls w line off past).2 : Nat))]) := by
  refine WC.pureR rfl fun lo' H' hh => ?_
  have hA' := hA.two (.inr ⟨[], .inr (by simp)⟩) hh
  have hlo := lo_two hh
  by_cases hok : 0 ≤ line ∧ line < ls.length ∧ 0 ≤ off ∧ off ≤ (ls.getD line.toNat []).length ∧ 0 ≤ past ∧ mayL (ls.getD line.toNat []) w
  · have hpl : placeL ls w line off past = ((allL (ls.take line.toNat) w).length + (posA w.toNat 0 0 (ls.getD line.toNat []) off.toNat).1,
     if off = (ls.getD line.toNat []).length ∧ 0 < past then (min ((posA w.toNat 0 0 (ls.getD line.toNat []) off.toNat).2 + min past w) (w - 1)).toNat else (posA w.toNat 0 0 (ls.getD line.toNat []) off.toNat).2) := if_pos hok
    rw [hpl]
    obtain ⟨o1, o2, o3, o4, o5, o6⟩ := hok
    obtain ⟨w2, w3, hg⟩ := o6
    have hlt : line.toNat < ls.length := by omega
    have hM := fun ys G => may_run (ys := ys) (lo := lo') (H := G) (.inl (hr.sl line.toNat hlt)) (hr.lt line.toNat hlt) w
    simp only [decide_eq_true (show mayL (ls.getD line.toNat []) w from ⟨w2, w3, hg⟩)] at hM
    have hcut := cutA_SlH hA' (lo := 0) (hi := line.toNat) (Nat.zero_le _) (by rw [hr.len]; omega)
    have hrc := hr.cut 0 line.toNat (Nat.zero_le _) (by omega)
    rw [List.drop_zero, Nat.sub_zero] at hcut hrc
    rw [List.drop_zero] at hrc
    have hcl := allL_le ls w line.toNat
    have hAll := fun ys G (x : Ext H' G) => All_run (ys := ys) (lo := lo') (hcut.ext x) hrc w (by omega) (by rw [List.length_take]; omega)
    have hrwl := fun G => len_SlH (ELo oc) lo' (H := G) 22 3 (.inl (rwA_Sl (allL (ls.take line.toNat) w))) (by kernel_rfl)
    simp only [rowsA_len] at hrwl
    have hsl := hr.sl line.toNat hlt
    have hlen := hln line.toNat hlt
    have hC : ∀ G, SlH G 3 (bOf es line.toNat) (cesA (ls.getD line.toNat [])) := fun G => .inl hsl
    have hcc := cells_SlH (hC H')
    generalize ls.getD line.toNat [] = l at *
    have hpb := fun k => posA_bd w.toNat (by omega) l 0 0 k hg (Nat.zero_le _)
    have lnl := fun G => len_cell lo' (hC G)
    have ixl := fun G => ix_cell lo' (hC G)
    have ldl := fun G => ld_cell lo' (hC G)
    have fal := fun G => fa_cell lo' (hC G)
    have lfl := fun G => lf_w lo' (hC G)
    have shl := fun G => sl_hi lo' (hC G)
    have hD := cut_hi (hC H') off.toNat (by omega)
    have hml : (l.take off.toNat).length = off.toNat := by rw [List.length_take]; omega
    have hmd : ∀ j, j < off.toNat → (l.take off.toNat).getD j zeroC = l.getD j zeroC := fun j hj => by
      rw [List.getD_eq_getElem?_getD, List.getElem?_take, if_pos hj, List.getD_eq_getElem?_getD]
    generalize hm : l.take off.toNat = m at *
    generalize hR : (allL (ls.take line.toNat) w).length = R0 at *
    refine zvin Tryz.func33 Tryz.ntmps33 ?_
    repeat' (first | refine zka ?_ | refine zkb ?_ | (apply RKp.op; ((try simp (disch := (first | omega | exact zX | exact zO | fail)) only [lenL lo' hA' hr, ixL lo' hA' hr, ldL lo' hA' hr, slL_hi lo' hA' hr, hrwl, hcc, lnl, shl, len_cellX lo' hD, hR, go_sem, Nat.reduceDiv, Nat.reduceMod, Nat.reduceAdd, Nat.reduceSub, Nat.reduceEqDiff, Nat.reduceLeDiff, Nat.reduceLT, Nat.reduceMul, reduceIte, Nat.reducePow, Int.reduceEq]); exact zL); rfl) | (apply RKp.callR; ((first | apply hM | apply hAll) <;> (exact zD)); rfl; intro tr htr) | refine zkc ?_ | apply RKg.tt | apply RKg.ff | refine zkd ?_ | refine zke ?_ | refine zkf ?_ | (refine RKg.split (fun h => ?_) (fun h => ?_) <;> (try rw [h]) <;> (replace h := zB h) <;> (try (exfalso; first | exact h | omega))) | apply RK.nil | apply V.sq | apply V.bl | apply V.sc | apply V.skip | apply V.label | apply V.ret | apply V.exit | apply SeqQ.normal | apply SeqQ.ret | apply SeqQ.exit | apply BlockQ.normal | apply BlockQ.ret | apply BlockQ.here | refine zbt ?_ | apply LoopS.ret | apply LoopS.exit | apply LoopF.ret | apply LoopF.exit | apply V.regK | refine zva ?_ | refine zvb ?_ | refine zgc ?_ | refine zvd ?_ | refine zve ?_ | (refine zvf (fun h => ?_) (fun h => ?_) <;> (replace h := zB h) <;> (try (exfalso; first | exact h | omega))) | (refine FnQ.retB (resc Tryz.results33) (by simp (disch := (first | omega | exact zX | exact zO | fail)) only [cellR_op, lenL lo' hA' hr, ixL lo' hA' hr, ldL lo' hA' hr, slL_hi lo' hA' hr, hrwl, hcc, lnl, shl, len_cellX lo' hD, hR, go_sem, Nat.reduceDiv, Nat.reduceMod, Nat.reduceAdd, Nat.reduceSub, Nat.reduceEqDiff, Nat.reduceLeDiff, Nat.reduceLT, Nat.reduceMul, reduceIte, Nat.reducePow, Int.reduceEq]; rfl) ?_; (try dsimp only)))
    apply V.lpS [71, 10, 72, 73, 74, 75, 76, 77, 78, 79, 80, 81, 82, 83, 84, 85, 86, 87, 88, 89, 90, 91, 92] (fun k xs H2 => ∃ (i : Nat) (g : _) (r c : Nat), xs = .v (.int .i64 i) :: g ∧ k = off.toNat - i ∧ i ≤ off.toNat ∧ Ext H' H2 ∧ H'.next + 3 ≤ H2.next ∧ H2.get H'.next = some (spBlk line off past) ∧ H2.get (H'.next + 1) = some (poBlk 0 0) ∧ H2.get (H'.next + 1 + 1) = some (poBlk (R0 + r : Nat) c) ∧ posA w.toNat r c (l.drop i) (off.toNat - i) = posA w.toNat 0 0 l off.toNat ∧ r ≤ i ∧ c ≤ w.toNat) off.toNat
    focus (intro xs; simp only [putMany, set2, Nat.reduceAdd, Nat.reduceDiv, Nat.reduceMod, nth_zero, nth_succ, List.set_cons_zero, List.set_cons_succ]; rfl)
    focus (first | rfl | simp only [readMany, nth_zero, nth_succ, Nat.reduceDiv, Nat.reduceMod])
    · refine ⟨0, _, 0, 0, rfl, rfl, Nat.zero_le _, by exact zX, by (first | omega | (simp only [next_push, next_set, next_empty]; done) | (simp only [next_push, next_set, next_empty]; omega)), by simp (disch := (first | omega | exact zX | fail)) only [get_set, get_push, next_push, next_set, if_pos', if_neg', if_true, if_false, reduceIte], by simp (disch := (first | omega | exact zX | fail)) only [get_set, get_push, next_push, next_set, if_pos', if_neg', if_true, if_false, reduceIte], by simp (disch := (first | omega | exact zX | fail)) only [get_set, get_push, next_push, next_set, if_pos', if_neg', if_true, if_false, reduceIte]; rfl, rfl, Nat.le_refl _, Nat.zero_le _⟩
    · rintro k xs H2 ⟨i, g, r, c, rfl, rfl, hi, hx, hn2, g0, g1, g2, hpo, hri, hcw⟩
      have hD2 := hD.ext hx
      by_cases hlt2 : i < off.toNat
      · have hmem : l.getD i zeroC ∈ l := by rw [List.getD_eq_getElem?_getD, List.getElem?_eq_getElem (by omega)]; exact List.getElem_mem _
        have hww := (hg _ hmem).w
        have hdr : l.drop i = l.getD i zeroC :: l.drop (i + 1) := by
          rw [List.drop_eq_getElem_cons (by omega), List.getD_eq_getElem?_getD, List.getElem?_eq_getElem (by omega)]; rfl
        obtain ⟨q, hq⟩ : ∃ q, off.toNat - i = q + 1 := ⟨off.toNat - i - 1, by omega⟩
        have hst : posA w.toNat r c (l.getD i zeroC :: l.drop (i + 1)) (q + 1) = if w.toNat < c + (l.getD i zeroC).w.toNat then posA w.toNat (r + 1) (l.getD i zeroC).w.toNat (l.drop (i + 1)) q else posA w.toNat r (c + (l.getD i zeroC).w.toNat) (l.drop (i + 1)) q := rfl
        rw [hdr, hq, hst] at hpo
        have hq2 : off.toNat - (i + 1) = q := by omega
        have ldm : ∀ G, Ext H2 G → primL lo' G (loadA (ELo oc) 52 (ixA (cutA (bOf es line.toNat) 0 off.toNat) (cesA m) i)) = some (.agg [.v (.int .i32 (l.getD i zeroC).r), .v (.int .i64 (l.getD i zeroC).w), .v (.int .i64 (l.getD i zeroC).a)], G, rdTr (cutA (bOf es line.toNat) 0 off.toNat)) := fun G hG => by
          rw [ld_cellX lo' hD2 G hG i (by omega), hmd i hlt2]
        generalize l.getD i zeroC = cc at *
        have eA : ((R0 + r : Nat) : Int) + 1 = ((R0 + (r + 1) : Nat) : Int) := by omega
        have eB : (0 : Int) + cc.w = ((cc.w.toNat : Nat) : Int) := by omega
        have eC : (c : Int) + cc.w = ((c + cc.w.toNat : Nat) : Int) := by omega
        repeat' (first | refine zka ?_ | refine zkb ?_ | (apply RKp.op; ((try simp (disch := (first | omega | exact zX | exact zO | fail)) only [g0, g1, g2, ix_cellX lo' hD2, ldm, Int.toNat_natCast, go_sem, Nat.reduceDiv, Nat.reduceMod, Nat.reduceAdd, Nat.reduceSub, Nat.reduceEqDiff, Nat.reduceLeDiff, Nat.reduceLT, Nat.reduceMul, reduceIte, Nat.reducePow, Int.reduceEq]); exact zL); rfl) | refine zkc ?_ | apply RKg.tt | apply RKg.ff | refine zkd ?_ | refine zke ?_ | refine zkf ?_ | (refine RKg.split (fun h => ?_) (fun h => ?_) <;> (try rw [h]) <;> (replace h := zB h) <;> (try (exfalso; first | exact h | omega))) | apply RK.nil | apply V.sq | apply V.bl | apply V.sc | apply V.skip | apply V.label | apply V.ret | apply V.exit | apply SeqQ.normal | apply SeqQ.ret | apply SeqQ.exit | apply BlockQ.normal | apply BlockQ.ret | apply BlockQ.here | refine zbt ?_ | apply LoopS.ret | apply LoopS.exit | apply LoopF.ret | apply LoopF.exit | apply V.regK | refine zva ?_ | refine zvb ?_ | refine zgc ?_ | refine zvd ?_ | refine zve ?_ | (refine zvf (fun h => ?_) (fun h => ?_) <;> (replace h := zB h) <;> (try (exfalso; first | exact h | omega))) | (refine FnQ.retB (resc Tryz.results33) (by simp (disch := (first | omega | exact zX | exact zO | fail)) only [cellR_op, g0, g1, g2, ix_cellX lo' hD2, ldm, Int.toNat_natCast, go_sem, Nat.reduceDiv, Nat.reduceMod, Nat.reduceAdd, Nat.reduceSub, Nat.reduceEqDiff, Nat.reduceLeDiff, Nat.reduceLT, Nat.reduceMul, reduceIte, Nat.reducePow, Int.reduceEq]; rfl) ?_; (try dsimp only)))
        · refine LoopS.again (off.toNat - (i + 1)) (by rfl) (by omega) ⟨i + 1, _, r + 1, cc.w.toNat, rfl, rfl, by omega, by exact zX, by (first | omega | (simp only [next_push, next_set, next_empty]; done) | (simp only [next_push, next_set, next_empty]; omega)), by simp (disch := (first | omega | exact zX | fail)) only [get_set, get_push, next_push, next_set, if_pos', if_neg', if_true, if_false, reduceIte]; exact g0, by simp (disch := (first | omega | exact zX | fail)) only [get_set, get_push, next_push, next_set, if_pos', if_neg', if_true, if_false, reduceIte]; exact g1, ?_, ?_, by omega, by omega⟩
          · rw [← eA, ← eB]; simp (disch := (first | omega | exact zX | fail)) only [get_set, get_push, next_push, next_set, if_pos', if_neg', if_true, if_false, reduceIte]
          · rw [if_pos (by omega)] at hpo
            rw [hq2]; exact hpo
        · refine LoopS.again (off.toNat - (i + 1)) (by rfl) (by omega) ⟨i + 1, _, r, c + cc.w.toNat, rfl, rfl, by omega, by exact zX, by (first | omega | (simp only [next_push, next_set, next_empty]; done) | (simp only [next_push, next_set, next_empty]; omega)), by simp (disch := (first | omega | exact zX | fail)) only [get_set, get_push, next_push, next_set, if_pos', if_neg', if_true, if_false, reduceIte]; exact g0, by simp (disch := (first | omega | exact zX | fail)) only [get_set, get_push, next_push, next_set, if_pos', if_neg', if_true, if_false, reduceIte]; exact g1, ?_, ?_, by omega, by omega⟩
          · rw [← eC]; simp (disch := (first | omega | exact zX | fail)) only [get_set, get_push, next_push, next_set, if_pos', if_neg', if_true, if_false, reduceIte]
          · rw [if_neg (by omega)] at hpo
            rw [hq2]; exact hpo
      · have ei : i = off.toNat := by omega
        subst ei
        rw [Nat.sub_self] at hpo
        have e1 : (R0 + r : Nat) = (R0 : Int) + r := by omega
        by_cases hoff : off < l.length
        · have hmem : l.getD off.toNat zeroC ∈ l := by rw [List.getD_eq_getElem?_getD, List.getElem?_eq_getElem (by omega)]; exact List.getElem_mem _
          have hww := (hg _ hmem).w
          have hdr : l.drop off.toNat = l.getD off.toNat zeroC :: l.drop (off.toNat + 1) := by
            rw [List.drop_eq_getElem_cons (by omega), List.getD_eq_getElem?_getD, List.getElem?_eq_getElem (by omega)]; rfl
          have hst : posA w.toNat r c (l.getD off.toNat zeroC :: l.drop (off.toNat + 1)) 0 = if w.toNat < c + (l.getD off.toNat zeroC).w.toNat then (r + 1, 0) else (r, c) := rfl
          rw [hdr, hst] at hpo
          by_cases hwr : w.toNat < c + (l.getD off.toNat zeroC).w.toNat
          · rw [if_pos hwr] at hpo
            have hp1 := congrArg Prod.fst hpo
            have hp2 := congrArg Prod.snd hpo
            dsimp only at hp1 hp2
            rw [← hp1, ← hp2]
            repeat' (first | refine zka ?_ | refine zkb ?_ | (apply RKp.op; ((try simp (disch := (first | omega | exact zX | exact zO | fail)) only [g0, g1, g2, lnl, ixl, fal, lfl, Int.toNat_natCast, go_sem, Nat.reduceDiv, Nat.reduceMod, Nat.reduceAdd, Nat.reduceSub, Nat.reduceEqDiff, Nat.reduceLeDiff, Nat.reduceLT, Nat.reduceMul, reduceIte, Nat.reducePow, Int.reduceEq]); exact zL); rfl) | refine zkc ?_ | apply RKg.tt | apply RKg.ff | refine zkd ?_ | refine zke ?_ | refine zkf ?_ | (refine RKg.split (fun h => ?_) (fun h => ?_) <;> (try rw [h]) <;> (replace h := zB h) <;> (try (exfalso; first | exact h | omega))) | apply RK.nil | apply V.sq | apply V.bl | apply V.sc | apply V.skip | apply V.label | apply V.ret | apply V.exit | apply SeqQ.normal | apply SeqQ.ret | apply SeqQ.exit | apply BlockQ.normal | apply BlockQ.ret | apply BlockQ.here | refine zbt ?_ | apply LoopS.ret | apply LoopS.exit | apply LoopF.ret | apply LoopF.exit | apply V.regK | refine zva ?_ | refine zvb ?_ | refine zgc ?_ | refine zvd ?_ | refine zve ?_ | (refine zvf (fun h => ?_) (fun h => ?_) <;> (replace h := zB h) <;> (try (exfalso; first | exact h | omega))) | (refine FnQ.retB (resc Tryz.results33) (by simp (disch := (first | omega | exact zX | exact zO | fail)) only [cellR_op, g0, g1, g2, lnl, ixl, fal, lfl, Int.toNat_natCast, go_sem, Nat.reduceDiv, Nat.reduceMod, Nat.reduceAdd, Nat.reduceSub, Nat.reduceEqDiff, Nat.reduceLeDiff, Nat.reduceLT, Nat.reduceMul, reduceIte, Nat.reducePow, Int.reduceEq]; rfl) ?_; (try dsimp only)))
            all_goals first
              | (exfalso; omega)
              | skip
            rw [frzR_agg, List.map_cons, List.map_cons, List.map_nil, frzC_v, frzC_v]
            rw [if_neg (by omega)]
            all_goals first | rfl | (congr 3 <;> first | rfl | (congr 2; omega))
          · rw [if_neg hwr] at hpo
            have hp1 := congrArg Prod.fst hpo
            have hp2 := congrArg Prod.snd hpo
            dsimp only at hp1 hp2
            rw [← hp1, ← hp2]
            repeat' (first | refine zka ?_ | refine zkb ?_ | (apply RKp.op; ((try simp (disch := (first | omega | exact zX | exact zO | fail)) only [g0, g1, g2, lnl, ixl, fal, lfl, Int.toNat_natCast, go_sem, Nat.reduceDiv, Nat.reduceMod, Nat.reduceAdd, Nat.reduceSub, Nat.reduceEqDiff, Nat.reduceLeDiff, Nat.reduceLT, Nat.reduceMul, reduceIte, Nat.reducePow, Int.reduceEq]); exact zL); rfl) | refine zkc ?_ | apply RKg.tt | apply RKg.ff | refine zkd ?_ | refine zke ?_ | refine zkf ?_ | (refine RKg.split (fun h => ?_) (fun h => ?_) <;> (try rw [h]) <;> (replace h := zB h) <;> (try (exfalso; first | exact h | omega))) | apply RK.nil | apply V.sq | apply V.bl | apply V.sc | apply V.skip | apply V.label | apply V.ret | apply V.exit | apply SeqQ.normal | apply SeqQ.ret | apply SeqQ.exit | apply BlockQ.normal | apply BlockQ.ret | apply BlockQ.here | refine zbt ?_ | apply LoopS.ret | apply LoopS.exit | apply LoopF.ret | apply LoopF.exit | apply V.regK | refine zva ?_ | refine zvb ?_ | refine zgc ?_ | refine zvd ?_ | refine zve ?_ | (refine zvf (fun h => ?_) (fun h => ?_) <;> (replace h := zB h) <;> (try (exfalso; first | exact h | omega))) | (refine FnQ.retB (resc Tryz.results33) (by simp (disch := (first | omega | exact zX | exact zO | fail)) only [cellR_op, g0, g1, g2, lnl, ixl, fal, lfl, Int.toNat_natCast, go_sem, Nat.reduceDiv, Nat.reduceMod, Nat.reduceAdd, Nat.reduceSub, Nat.reduceEqDiff, Nat.reduceLeDiff, Nat.reduceLT, Nat.reduceMul, reduceIte, Nat.reducePow, Int.reduceEq]; rfl) ?_; (try dsimp only)))
            all_goals first
              | (exfalso; omega)
              | skip
            rw [frzR_agg, List.map_cons, List.map_cons, List.map_nil, frzC_v, frzC_v]
            rw [if_neg (by omega)]
            all_goals first | rfl | (congr 3 <;> first | rfl | (congr 2; omega))
        · have hdr : l.drop off.toNat = [] := List.drop_eq_nil_of_le (by omega)
          rw [hdr] at hpo
          have hst : posA w.toNat r c [] 0 = (r, c) := rfl
          rw [hst] at hpo
          have hp1 := congrArg Prod.fst hpo
          have hp2 := congrArg Prod.snd hpo
          dsimp only at hp1 hp2
          rw [← hp1, ← hp2]
          by_cases hpa : 0 < past
          · rw [if_pos ⟨by omega, hpa⟩]
            repeat' (first | refine zka ?_ | refine zkb ?_ | (apply RKp.op; ((try simp (disch := (first | omega | exact zX | exact zO | fail)) only [g0, g1, g2, lnl, Int.toNat_natCast, go_sem, Nat.reduceDiv, Nat.reduceMod, Nat.reduceAdd, Nat.reduceSub, Nat.reduceEqDiff, Nat.reduceLeDiff, Nat.reduceLT, Nat.reduceMul, reduceIte, Nat.reducePow, Int.reduceEq]); exact zL); rfl) | refine zkc ?_ | apply RKg.tt | apply RKg.ff | refine zkd ?_ | refine zke ?_ | refine zkf ?_ | (refine RKg.split (fun h => ?_) (fun h => ?_) <;> (try rw [h]) <;> (replace h := zB h) <;> (try (exfalso; first | exact h | omega))) | apply RK.nil | apply V.sq | apply V.bl | apply V.sc | apply V.skip | apply V.label | apply V.ret | apply V.exit | apply SeqQ.normal | apply SeqQ.ret | apply SeqQ.exit | apply BlockQ.normal | apply BlockQ.ret | apply BlockQ.here | refine zbt ?_ | apply LoopS.ret | apply LoopS.exit | apply LoopF.ret | apply LoopF.exit | apply V.regK | refine zva ?_ | refine zvb ?_ | refine zgc ?_ | refine zvd ?_ | refine zve ?_ | (refine zvf (fun h => ?_) (fun h => ?_) <;> (replace h := zB h) <;> (try (exfalso; first | exact h | omega))) | (refine FnQ.retB (resc Tryz.results33) (by simp (disch := (first | omega | exact zX | exact zO | fail)) only [cellR_op, g0, g1, g2, lnl, Int.toNat_natCast, go_sem, Nat.reduceDiv, Nat.reduceMod, Nat.reduceAdd, Nat.reduceSub, Nat.reduceEqDiff, Nat.reduceLeDiff, Nat.reduceLT, Nat.reduceMul, reduceIte, Nat.reducePow, Int.reduceEq]; rfl) ?_; (try dsimp only)))
            all_goals first
              | (exfalso; omega)
              | (rw [frzR_agg, List.map_cons, List.map_cons, List.map_nil, frzC_v, frzC_v]
                 first | rfl | (congr 3 <;> first | rfl | (congr 2; omega)))
          · rw [if_neg (fun z => hpa z.2)]
            repeat' (first | refine zka ?_ | refine zkb ?_ | (apply RKp.op; ((try simp (disch := (first | omega | exact zX | exact zO | fail)) only [g0, g1, g2, lnl, Int.toNat_natCast, go_sem, Nat.reduceDiv, Nat.reduceMod, Nat.reduceAdd, Nat.reduceSub, Nat.reduceEqDiff, Nat.reduceLeDiff, Nat.reduceLT, Nat.reduceMul, reduceIte, Nat.reducePow, Int.reduceEq]); exact zL); rfl) | refine zkc ?_ | apply RKg.tt | apply RKg.ff | refine zkd ?_ | refine zke ?_ | refine zkf ?_ | (refine RKg.split (fun h => ?_) (fun h => ?_) <;> (try rw [h]) <;> (replace h := zB h) <;> (try (exfalso; first | exact h | omega))) | apply RK.nil | apply V.sq | apply V.bl | apply V.sc | apply V.skip | apply V.label | apply V.ret | apply V.exit | apply SeqQ.normal | apply SeqQ.ret | apply SeqQ.exit | apply BlockQ.normal | apply BlockQ.ret | apply BlockQ.here | refine zbt ?_ | apply LoopS.ret | apply LoopS.exit | apply LoopF.ret | apply LoopF.exit | apply V.regK | refine zva ?_ | refine zvb ?_ | refine zgc ?_ | refine zvd ?_ | refine zve ?_ | (refine zvf (fun h => ?_) (fun h => ?_) <;> (replace h := zB h) <;> (try (exfalso; first | exact h | omega))) | (refine FnQ.retB (resc Tryz.results33) (by simp (disch := (first | omega | exact zX | exact zO | fail)) only [cellR_op, g0, g1, g2, lnl, Int.toNat_natCast, go_sem, Nat.reduceDiv, Nat.reduceMod, Nat.reduceAdd, Nat.reduceSub, Nat.reduceEqDiff, Nat.reduceLeDiff, Nat.reduceLT, Nat.reduceMul, reduceIte, Nat.reducePow, Int.reduceEq]; rfl) ?_; (try dsimp only)))
            all_goals first
              | (exfalso; omega)
              | skip
            rw [frzR_agg, List.map_cons, List.map_cons, List.map_nil, frzC_v, frzC_v]
            all_goals first | rfl | (congr 3 <;> first | rfl | (congr 2; omega))
  · have hpl : placeL ls w line off past = (0, 0) := if_neg hok
    rw [hpl]
    by_cases hlt : 0 ≤ line ∧ line < ls.length
    · have hM := fun ys G => may_run (ys := ys) (lo := lo') (H := G) (.inl (hr.sl line.toNat (by omega))) (hr.lt line.toNat (by omega)) w
      have lnl := fun G => len_cell lo' (H := G) (.inl (hr.sl line.toNat (by omega)))
      by_cases hmm : mayL (ls.getD line.toNat []) w
      · simp only [decide_eq_true hmm] at hM
        have hok' : ¬ (0 ≤ off ∧ off ≤ (ls.getD line.toNat []).length ∧ 0 ≤ past) := fun z => hok ⟨hlt.1, hlt.2, z.1, z.2.1, z.2.2, hmm⟩
        refine zvin Tryz.func33 Tryz.ntmps33 ?_
        repeat' (first | refine zka ?_ | refine zkb ?_ | (apply RKp.op; ((try simp (disch := (first | omega | exact zX | exact zO | fail)) only [lenL lo' hA' hr, ixL lo' hA' hr, ldL lo' hA' hr, lnl, go_sem, Nat.reduceDiv, Nat.reduceMod, Nat.reduceAdd, Nat.reduceSub, Nat.reduceEqDiff, Nat.reduceLeDiff, Nat.reduceLT, Nat.reduceMul, reduceIte, Nat.reducePow, Int.reduceEq]); exact zL); rfl) | (apply RKp.callR; (apply hM <;> (exact zD)); rfl; intro tr htr) | refine zkc ?_ | apply RKg.tt | apply RKg.ff | refine zkd ?_ | refine zke ?_ | refine zkf ?_ | (refine RKg.split (fun h => ?_) (fun h => ?_) <;> (try rw [h]) <;> (replace h := zB h) <;> (try (exfalso; first | exact h | omega))) | apply RK.nil | apply V.sq | apply V.bl | apply V.sc | apply V.skip | apply V.label | apply V.ret | apply V.exit | apply SeqQ.normal | apply SeqQ.ret | apply SeqQ.exit | apply BlockQ.normal | apply BlockQ.ret | apply BlockQ.here | refine zbt ?_ | apply LoopS.ret | apply LoopS.exit | apply LoopF.ret | apply LoopF.exit | apply V.regK | refine zva ?_ | refine zvb ?_ | refine zgc ?_ | refine zvd ?_ | refine zve ?_ | (refine zvf (fun h => ?_) (fun h => ?_) <;> (replace h := zB h) <;> (try (exfalso; first | exact h | omega))) | (refine FnQ.retB (resc Tryz.results33) (by simp (disch := (first | omega | exact zX | exact zO | fail)) only [cellR_op, lenL lo' hA' hr, ixL lo' hA' hr, ldL lo' hA' hr, lnl, go_sem, Nat.reduceDiv, Nat.reduceMod, Nat.reduceAdd, Nat.reduceSub, Nat.reduceEqDiff, Nat.reduceLeDiff, Nat.reduceLT, Nat.reduceMul, reduceIte, Nat.reducePow, Int.reduceEq]; rfl) ?_; (try dsimp only)))
        all_goals first
          | (exfalso; omega)
          | rfl
          | trace_state
      · simp only [decide_eq_false hmm] at hM
        refine zvin Tryz.func33 Tryz.ntmps33 ?_
        repeat' (first | refine zka ?_ | refine zkb ?_ | (apply RKp.op; ((try simp (disch := (first | omega | exact zX | exact zO | fail)) only [lenL lo' hA' hr, ixL lo' hA' hr, ldL lo' hA' hr, lnl, go_sem, Nat.reduceDiv, Nat.reduceMod, Nat.reduceAdd, Nat.reduceSub, Nat.reduceEqDiff, Nat.reduceLeDiff, Nat.reduceLT, Nat.reduceMul, reduceIte, Nat.reducePow, Int.reduceEq]); exact zL); rfl) | (apply RKp.callR; (apply hM <;> (exact zD)); rfl; intro tr htr) | refine zkc ?_ | apply RKg.tt | apply RKg.ff | refine zkd ?_ | refine zke ?_ | refine zkf ?_ | (refine RKg.split (fun h => ?_) (fun h => ?_) <;> (try rw [h]) <;> (replace h := zB h) <;> (try (exfalso; first | exact h | omega))) | apply RK.nil | apply V.sq | apply V.bl | apply V.sc | apply V.skip | apply V.label | apply V.ret | apply V.exit | apply SeqQ.normal | apply SeqQ.ret | apply SeqQ.exit | apply BlockQ.normal | apply BlockQ.ret | apply BlockQ.here | refine zbt ?_ | apply LoopS.ret | apply LoopS.exit | apply LoopF.ret | apply LoopF.exit | apply V.regK | refine zva ?_ | refine zvb ?_ | refine zgc ?_ | refine zvd ?_ | refine zve ?_ | (refine zvf (fun h => ?_) (fun h => ?_) <;> (replace h := zB h) <;> (try (exfalso; first | exact h | omega))) | (refine FnQ.retB (resc Tryz.results33) (by simp (disch := (first | omega | exact zX | exact zO | fail)) only [cellR_op, lenL lo' hA' hr, ixL lo' hA' hr, ldL lo' hA' hr, lnl, go_sem, Nat.reduceDiv, Nat.reduceMod, Nat.reduceAdd, Nat.reduceSub, Nat.reduceEqDiff, Nat.reduceLeDiff, Nat.reduceLT, Nat.reduceMul, reduceIte, Nat.reducePow, Int.reduceEq]; rfl) ?_; (try dsimp only)))
        all_goals first
          | rfl
          | trace_state
    · refine zvin Tryz.func33 Tryz.ntmps33 ?_
      repeat' (first | refine zka ?_ | refine zkb ?_ | (apply RKp.op; ((try simp (disch := (first | omega | exact zX | exact zO | fail)) only [lenL lo' hA' hr, ixL lo' hA' hr, ldL lo' hA' hr, go_sem, Nat.reduceDiv, Nat.reduceMod, Nat.reduceAdd, Nat.reduceSub, Nat.reduceEqDiff, Nat.reduceLeDiff, Nat.reduceLT, Nat.reduceMul, reduceIte, Nat.reducePow, Int.reduceEq]); exact zL); rfl) | refine zkc ?_ | apply RKg.tt | apply RKg.ff | refine zkd ?_ | refine zke ?_ | refine zkf ?_ | (refine RKg.split (fun h => ?_) (fun h => ?_) <;> (try rw [h]) <;> (replace h := zB h) <;> (try (exfalso; first | exact h | omega))) | apply RK.nil | apply V.sq | apply V.bl | apply V.sc | apply V.skip | apply V.label | apply V.ret | apply V.exit | apply SeqQ.normal | apply SeqQ.ret | apply SeqQ.exit | apply BlockQ.normal | apply BlockQ.ret | apply BlockQ.here | refine zbt ?_ | apply LoopS.ret | apply LoopS.exit | apply LoopF.ret | apply LoopF.exit | apply V.regK | refine zva ?_ | refine zvb ?_ | refine zgc ?_ | refine zvd ?_ | refine zve ?_ | (refine zvf (fun h => ?_) (fun h => ?_) <;> (replace h := zB h) <;> (try (exfalso; first | exact h | omega))) | (refine FnQ.retB (resc Tryz.results33) (by simp (disch := (first | omega | exact zX | exact zO | fail)) only [cellR_op, lenL lo' hA' hr, ixL lo' hA' hr, ldL lo' hA' hr, go_sem, Nat.reduceDiv, Nat.reduceMod, Nat.reduceAdd, Nat.reduceSub, Nat.reduceEqDiff, Nat.reduceLeDiff, Nat.reduceLT, Nat.reduceMul, reduceIte, Nat.reducePow, Int.reduceEq]; rfl) ?_; (try dsimp only)))
      all_goals first
        | (exfalso; omega)
        | rfl
        | trace_state
end
end Go.Am
