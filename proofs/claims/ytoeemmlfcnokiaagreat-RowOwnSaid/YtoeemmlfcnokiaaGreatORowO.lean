
/- Rows: what put, Set and Erase make is the caller's own; RowOwn. -/
import Derived.Test.YtoeemmlfcnokiaaGreatORowS
import Derived.Test.YtoeemmlfcnokiaaGreatAmD
set_option linter.all false
set_option linter.deprecated false
namespace Go.Am
open Go.Proofs
set_option maxRecDepth 8000
set_option maxHeartbeats 4000000
theorem hands_tup {H : AHeap} {lo n e off len : Nat} {b : Blk} {w z : Value} (hl : lo ≤ n) (hb : H.get n = some b) (he : b.ep = e) (hf : FlatE b.es) : Hands H lo (.tup [.agg [.os n e off len, .v w], .v z]) (fun m => .tup [.agg [.os m 0 off len, .v w], .v z]) fun _ => [{ b with ep := 0 }] := by
  refine ⟨[n], ?_, rfl, all_one hl, fun m => ⟨blks_one (e := e) hb hf m, ?_⟩⟩
  · show (if _ then _ else _) = _
    rw [own_one (H := H) hl]; rfl
  · show AV.tup [.agg [renC H lo m [n] frzDepth (.os n e off len), .v w], .v z] = _
    rw [renC_one hl hb he]
theorem hands_tup0 {H : AHeap} {lo : Nat} {a : AV} {w z : Value} (h : flatB a = true) : Hands H lo (.tup [.agg [a, .v w], .v z]) (fun _ => .tup [.agg [a, .v w], .v z]) fun _ => [] := by
  refine ⟨[], ?_, rfl, rfl, fun b => ⟨rfl, ?_⟩⟩
  · cases a <;> first | rfl | cases h
  · show AV.tup [.agg [renC H lo b [] frzDepth a, .v w], .v z] = _
    rw [renC_flat H lo b [] h]
section
variable {ys : List (Nat × LRec)} {lo : Nat} {H : AHeap} {A B : AV} {l m : List Ce} {wr wr' : Bool}
theorem put_own (hA : SlH H 3 A (cesA l)) (hB : SlH H 3 B (cesA m)) (hl : l.length < 2 ^ 40) (col : Nat) (hm : 0 < m.length) (hb : col + m.length ≤ l.length) (hz : (l.getD col zeroC).w = 0 → 0 < col) : CallN EO ys lo 63 [rowA A wr, .v (.int .i64 col), B] H (rowA (.os H.next 0 0 l.length) wr) (H.push (cblk 0 (putL l col m))) := by
  refine WC.ownN (x := fun k => rowA (.os k 0 0 l.length) wr) (bs := fun _ => [cblk 0 (putL l col m)]) rfl fun lo' H' hh => ?_
  have hA' := (hA.two (.inr ⟨[A, .v (.bool wr)], .inl (by simp)⟩) hh)
  have hB' := (hB.two (.inr ⟨[], .inr (by simp)⟩) hh)
  have hlo := lo_two hh
  have hA1 : SlH ((H'.push (rblk A wr)).push zblk) 3 A (cesA l) := (hA'.push _).push _
  have h0 : l ≠ [] := by rintro rfl; rw [List.length_nil] at hb; omega
  have e1 : ((col : Int) - 1).toNat = col - 1 := by omega
  have e2 : ((col : Int) + m.length).toNat = col + m.length := by omega
  refine zvin Tryz.func63 Tryz.ntmps63 ?_
  repeat' (first
   | refine zka ?_
   | refine zkb ?_
   | (apply RKp.op; ((try simp (disch := (first | ((try simp only [List.length_set, List.map_set, ces_len, setN_len, fixTo_len]); omega) | exact zX | exact zX | exact zO | fail)) only [len_cellX lo' hB', ix_cellX lo' hB', ld_cellX lo' hB', fa_cellX lo' hB', lf_wX lo' hB', lf_aX lo' hB', lf_rX lo' hB', sl_hiX lo' hB', sl_loX lo' hB', sl_lohiX lo' hB', nth_cesA, ces_set, ces_len, List.length_set, List.length_take, Nat.min_self, hz3, drop3, Int.toNat_natCast, e1, e2, go_sem, Nat.reduceDiv, Nat.reduceMod, Nat.reduceAdd, Nat.reduceSub, Nat.reduceEqDiff, Nat.reduceLeDiff, Nat.reduceLT, Nat.reduceMul, reduceIte, Nat.reducePow, Int.reduceEq]); exact zL); rfl)
   | (apply RKp.call; (apply Blank_run <;> (exact zD)); rfl)
   | (apply RKp.callO; (apply Clone_run <;> (exact zD)); rfl; intro tr)
   | refine zkc ?_
   | apply RKg.tt
   | apply RKg.ff
   | refine zkd ?_
   | refine zke ?_
   | refine zkf ?_
   | (refine RKg.split (fun h => ?_) (fun h => ?_) <;> (try rw [h]) <;> (replace h := zB h) <;> (try (exfalso; first | exact h | omega)))
   | apply RK.nil
   | apply V.sq
   | apply V.bl
   | apply V.sc
   | apply V.skip
   | apply V.label
   | apply V.ret
   | apply V.exit
   | apply SeqQ.normal
   | apply SeqQ.ret
   | apply SeqQ.exit
   | apply BlockQ.normal
   | apply BlockQ.ret
   | apply BlockQ.here
   | refine zbt ?_
   | apply LoopS.ret
   | apply LoopS.exit
   | apply LoopF.ret
   | apply LoopF.exit
   | apply V.regK
    | refine zva ?_
   | refine zvb ?_
   | refine zgc ?_
   | refine zvd ?_
   | refine zve ?_
   | (refine zvf (fun h => ?_) (fun h => ?_) <;> (replace h := zB h) <;> (try (exfalso; first | exact h | omega)))
    | (refine FnQ.retB (resc Tryz.results63) (by simp (disch := (first | ((try simp only [List.length_set, List.map_set, ces_len, setN_len, fixTo_len]); omega) | exact zX | exact zX | exact zO | fail)) only [cellR_op, len_cellX lo' hB', ix_cellX lo' hB', ld_cellX lo' hB', fa_cellX lo' hB', lf_wX lo' hB', lf_aX lo' hB', lf_rX lo' hB', sl_hiX lo' hB', sl_loX lo' hB', sl_lohiX lo' hB', nth_cesA, ces_set, ces_len, List.length_set, List.length_take, Nat.min_self, hz3, drop3, Int.toNat_natCast, e1, e2, go_sem, Nat.reduceDiv, Nat.reduceMod, Nat.reduceAdd, Nat.reduceSub, Nat.reduceEqDiff, Nat.reduceLeDiff, Nat.reduceLT, Nat.reduceMul, reduceIte, Nat.reducePow, Int.reduceEq]; rfl) ?_; (try dsimp only)))
  all_goals
    apply V.lpS [52, 8, 9, 53, 54, 55, 56, 57, 58, 59, 60, 61, 62, 63, 64] (fun k xs H2 => ∃ (i : Nat) (g : _), xs = .v (.int .i64 i) :: g ∧ k = m.length - i ∧ i ≤ m.length ∧ Ext H' H2 ∧ H'.next + 3 ≤ H2.next ∧
      H2.get H'.next = some ⟨47, 2, 0, [[.os (H'.next + 1 + 1) 0 0 l.length, .v (.bool wr)]], none⟩ ∧ H2.get (H'.next + 1) = some zblk ∧
      ∃ l2, H2.get (H'.next + 1 + 1) = some (cblk 0 (setN l2 col m i)) ∧ l2.length = l.length ∧ setN l2 col m m.length = putL l col m) m.length
    focus (intro xs; simp only [putMany, set2, Nat.reduceAdd, Nat.reduceDiv, Nat.reduceMod, nth_zero, nth_succ, List.set_cons_zero, List.set_cons_succ]; rfl)
    focus (first | rfl | simp only [readMany, nth_zero, nth_succ, Nat.reduceDiv, Nat.reduceMod])
    · refine ⟨0, _, rfl, rfl, Nat.zero_le _, by exact zX, by (first | omega | (simp only [next_push, next_set, next_empty]; done) | (simp only [next_push, next_set, next_empty]; omega)), by simp (disch := (first | omega | exact zX | fail)) only [get_set, get_push, next_push, next_set, if_pos', if_neg', if_true, if_false, reduceIte], by simp (disch := (first | omega | exact zX | fail)) only [get_set, get_push, next_push, next_set, if_pos', if_neg', if_true, if_false, reduceIte], ?_⟩
      apply Exists.intro
      apply And.intro
      · simp (disch := (first | omega | exact zX | fail)) only [get_set, get_push, next_push, next_set, if_pos', if_neg', if_true, if_false, reduceIte]; rfl
      · refine ⟨by simp only [List.length_set], put_fin _ _ _ _ (by simp only [List.length_set]) fun j hj hn => ?_⟩
        (try simp only [ce_set, List.length_set] at h)
        (try simp only [ce_set, List.length_set])
        grind
    · rintro k xs H2 ⟨i, g, rfl, rfl, hi, hx, hn, g0, g1, l2, g2, hl2, hfin⟩
      have e3 : ((col : Int) + i).toNat = col + i := by omega
      have n1 : ¬ H2.next = H'.next := by omega
      have n2 : ¬ H2.next = H'.next + 1 := by omega
      have n3 : ¬ H2.next = H'.next + 1 + 1 := by omega
      repeat' (first
       | refine zka ?_
       | refine zkb ?_
       | (apply RKp.op; ((try simp (disch := (first | ((try simp only [List.length_set, List.map_set, ces_len, setN_len, fixTo_len]); omega) | exact zX | exact zX | exact zO | fail)) only [len_cellX lo' hB', ix_cellX lo' hB', ld_cellX lo' hB', fa_cellX lo' hB', lf_wX lo' hB', lf_aX lo' hB', lf_rX lo' hB', sl_hiX lo' hB', sl_loX lo' hB', sl_lohiX lo' hB', g0, g1, g2, n1, n2, n3, ces_set, ces_len, List.length_set, setN_len, hl2, List.length_take, Nat.min_self, hz3, drop3, Int.toNat_natCast, e3, go_sem, Nat.reduceDiv, Nat.reduceMod, Nat.reduceAdd, Nat.reduceSub, Nat.reduceEqDiff, Nat.reduceLeDiff, Nat.reduceLT, Nat.reduceMul, reduceIte, Nat.reducePow, Int.reduceEq]); exact zL); rfl)
       | refine zkc ?_
       | apply RKg.tt
       | apply RKg.ff
       | refine zkd ?_
       | refine zke ?_
       | refine zkf ?_
       | (refine RKg.split (fun h => ?_) (fun h => ?_) <;> (try rw [h]) <;> (replace h := zB h) <;> (try (exfalso; first | exact h | omega)))
       | apply RK.nil
       | apply V.sq
       | apply V.bl
       | apply V.sc
       | apply V.skip
       | apply V.label
       | apply V.ret
       | apply V.exit
       | apply SeqQ.normal
       | apply SeqQ.ret
       | apply SeqQ.exit
       | apply BlockQ.normal
       | apply BlockQ.ret
       | apply BlockQ.here
       | refine zbt ?_
       | apply LoopS.ret
       | apply LoopS.exit
       | apply LoopF.ret
       | apply LoopF.exit
       | apply V.regK
        | refine zva ?_
       | refine zvb ?_
       | refine zgc ?_
       | refine zvd ?_
       | refine zve ?_
       | (refine zvf (fun h => ?_) (fun h => ?_) <;> (replace h := zB h) <;> (try (exfalso; first | exact h | omega)))
        | (refine FnQ.retB (resc Tryz.results63) (by simp (disch := (first | ((try simp only [List.length_set, List.map_set, ces_len, setN_len, fixTo_len]); omega) | exact zX | exact zX | exact zO | fail)) only [cellR_op, len_cellX lo' hB', ix_cellX lo' hB', ld_cellX lo' hB', fa_cellX lo' hB', lf_wX lo' hB', lf_aX lo' hB', lf_rX lo' hB', sl_hiX lo' hB', sl_loX lo' hB', sl_lohiX lo' hB', g0, g1, g2, n1, n2, n3, ces_set, ces_len, List.length_set, setN_len, hl2, List.length_take, Nat.min_self, hz3, drop3, Int.toNat_natCast, e3, go_sem, Nat.reduceDiv, Nat.reduceMod, Nat.reduceAdd, Nat.reduceSub, Nat.reduceEqDiff, Nat.reduceLeDiff, Nat.reduceLT, Nat.reduceMul, reduceIte, Nat.reducePow, Int.reduceEq]; rfl) ?_; (try dsimp only)))
      · refine LoopS.again (m.length - (i + 1)) (by rfl) (by omega) ⟨i + 1, _, rfl, rfl, by omega, by exact zX, by (first | omega | (simp only [next_push, next_set, next_empty]; done) | (simp only [next_push, next_set, next_empty]; omega)), by simp (disch := (first | omega | exact zX | fail)) only [get_set, get_push, next_push, next_set, if_pos', if_neg', if_true, if_false, reduceIte, g0, g1, g2], by simp (disch := (first | omega | exact zX | fail)) only [get_set, get_push, next_push, next_set, if_pos', if_neg', if_true, if_false, reduceIte, g0, g1, g2], l2, ?_, hl2, hfin⟩
        simp (disch := (first | omega | exact zX | fail)) only [get_set, get_push, next_push, next_set, if_pos', if_neg', if_true, if_false, reduceIte, g0, g1, g2]; rfl
      · have : i = m.length := by omega
        subst this
        exact hands_agg (b := cblk 0 (putL l col m)) (by omega) (by rw [← hfin]; simp (disch := (first | omega | exact zX | fail)) only [get_set, get_push, next_push, next_set, if_pos', if_neg', if_true, if_false, reduceIte, g0, g1, g2]) rfl (flat_ces _)
end
end Go.Am
