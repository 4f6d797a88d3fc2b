
/- Rows: what Set and Erase make is the caller's own, with the call's trace. NOT BUILT YET. -/
import Derived.Test.YtoeemmlfcnokiaaGreatORowO
set_option linter.all false
set_option linter.deprecated false
namespace Go.Am
open Go.Proofs
set_option maxRecDepth 8000
set_option maxHeartbeats 4000000
theorem newBits_one (n : Nat) : newBits n 1 = 2 ^ n := by show 2 ^ n * (2 ^ 1 - 1) = _; omega

/-- A call with frozen arguments that hands over: its trace is known. -/
theorem WC.ownX {E : Env} {ys : List (Nat × LRec)} {lo : Nat} {f : FuncId} {args : List AV} {H : AHeap} {x : Nat → AV} {bs : Nat → List Blk} (hpol : E.pol f = .own) (hnf : args.all nf = true)
    (hc : ∀ lo' H', (lo' = H.next ∧ H' = H) ∨ (lo' = 0 ∧ H' = .empty ∧ args.all nf = true) → WC E [] lo' f args H' fun r H'' => Hands H'' lo' r x bs) : CallR E ys lo f args H (x H.next) (pushAll H (bs H.next)) ⟨0, newBits H.next (bs H.next).length, 0⟩ := by
  obtain ⟨n, r, H'', h1, h2⟩ := hc 0 .empty (.inr ⟨rfl, rfl, hnf⟩)
  obtain ⟨x', bs', ⟨rfl, rfl⟩, h4⟩ := WC.own (K := fun x' bs' => x' = x ∧ bs' = bs) hpol hnf ⟨n, r, H'', h1, x, bs, h2, rfl, rfl⟩
  exact h4 ys lo H
section
variable {ys : List (Nat × LRec)} {lo : Nat} {H : AHeap} {A B : AV} {l m : List Ce} {wr wr' : Bool}
theorem Set_own (hA : Sl 3 A (cesA l)) (hB : SlH H 3 B (cesA m)) (hl : l.length < 2 ^ 40) (hm : m.length < 2 ^ 40) (col : Int) (hc : -9223372036854775808 ≤ col ∧ col ≤ 9223372036854775807) (hok : setOk l col m) (hnf : [rowA A wr, .v (.int .i64 col), B].all nf = true) : CallR EO ys lo 23 [rowA A wr, .v (.int .i64 col), B] H (.tup [rowA (.os H.next 0 0 l.length) wr, .v (.bool true)]) (H.push (cblk 0 (putL l col.toNat m))) ⟨0, 2 ^ H.next, 0⟩ := by
  refine newBits_one H.next ▸ WC.ownX (x := fun k => .tup [rowA (.os k 0 0 l.length) wr, .v (.bool true)]) (bs := fun _ => [cblk 0 (putL l col.toNat m)]) rfl hnf fun lo' H' hh => ?_
  have hA' : SlH H' 3 A (cesA l) := .inl hA
  have hB' := (hB.two (.inr ⟨[], .inr (by simp)⟩) hh)
  have hlo := lo_two hh
  have hA2 : SlH ((H'.push (rblk A wr)).push zblk) 3 A (cesA l) := (hA'.push _).push _
  have hB2 : SlH ((H'.push (rblk A wr)).push zblk) 3 B (cesA m) := (hB'.push _).push _
  have hok' := hok
  obtain ⟨h1, h2, h3, h4⟩ := hok'
  have hcn : ((col.toNat : Nat) : Int) = col := by omega
  have hp := fun hx => put_own (ys := []) (lo := lo') (wr := wr) (H := (H'.push (rblk A wr)).push zblk) hA2 hB2 hl col.toNat (by have := (signI_G h2).len; omega) (by have := (signI_G h2).len; omega) hx
  rw [hcn] at hp
  have hz : (l.getD col.toNat zeroC).w = 0 → 0 < col.toNat := fun e => (((h1.2 col.toNat (by have := (signI_G h2).len; omega)).2.1 e).1)
  have hp := (hp hz).toO
  have d1 : decide (rowG l) = true := decide_eq_true h1
  have d2 : decide (signI m) = true := decide_eq_true h2
  refine zvin Tryz.func23 Tryz.ntmps23 ?_
  repeat' (first
   | refine zka ?_
   | refine zkb ?_
   | (apply RKp.op; ((try simp (disch := (first | ((try simp only [List.length_set, List.map_set, ces_len, setN_len, fixTo_len]); omega) | exact zX | exact zX | exact zO | fail)) only [len_cellX lo' hA', ix_cellX lo' hA', ld_cellX lo' hA', fa_cellX lo' hA', lf_wX lo' hA', lf_aX lo' hA', lf_rX lo' hA', sl_hiX lo' hA', sl_loX lo' hA', sl_lohiX lo' hA', len_cellX lo' hB', ix_cellX lo' hB', ld_cellX lo' hB', fa_cellX lo' hB', lf_wX lo' hB', lf_aX lo' hB', lf_rX lo' hB', sl_hiX lo' hB', sl_loX lo' hB', sl_lohiX lo' hB', d1, d2, go_sem, Nat.reduceDiv, Nat.reduceMod, Nat.reduceAdd, Nat.reduceSub, Nat.reduceEqDiff, Nat.reduceLeDiff, Nat.reduceLT, Nat.reduceMul, reduceIte, Nat.reducePow, Int.reduceEq]); exact zL); rfl)
   | (apply RKp.call; (apply hp <;> (exact zD)); rfl)
   | (apply RKp.callR; ((first | apply May_R | apply sign_R | apply hp) <;> (exact zD)); rfl; intro tr htr)
   | (apply RKp.callO; (apply hp <;> (exact zD)); rfl; intro tr)
   | (apply RKp.callRE; (apply hp <;> (exact zD)); (intro x; rfl))
   | (apply RKp.callE; (apply hp <;> (exact zD)); (intro x; rfl))
   | refine zkc ?_
   | apply RKg.tt
   | apply RKg.ff
   | refine zkd ?_
   | refine zke ?_
   | refine zkf ?_
   | (refine RKg.split (fun h => ?_) (fun h => ?_) <;> (try rw [h]) <;> (replace h := zB h) <;> (try (exfalso; first | exact h | omega)))
   | apply RK.nil
   | apply V.sq
   | apply V.bl
   | apply V.sc
   | apply V.skip
   | apply V.label
   | apply V.ret
   | apply V.exit
   | apply SeqQ.normal
   | apply SeqQ.ret
   | apply SeqQ.exit
   | apply BlockQ.normal
   | apply BlockQ.ret
   | apply BlockQ.here
   | refine zbt ?_
   | apply LoopS.ret
   | apply LoopS.exit
   | apply LoopF.ret
   | apply LoopF.exit
   | apply V.regK
   | refine zvd ?_
   | refine zve ?_
   | (refine zvf (fun h => ?_) (fun h => ?_) <;> (replace h := zB h) <;> (try (exfalso; first | exact h | omega)))
    | (refine FnQ.retB (resct Tryz.results23) (by simp (disch := (first | ((try simp only [List.length_set, List.map_set, ces_len, setN_len, fixTo_len]); omega) | exact zX | exact zX | exact zO | fail)) only [cellR_op, len_cellX lo' hA', ix_cellX lo' hA', ld_cellX lo' hA', fa_cellX lo' hA', lf_wX lo' hA', lf_aX lo' hA', lf_rX lo' hA', sl_hiX lo' hA', sl_loX lo' hA', sl_lohiX lo' hA', len_cellX lo' hB', ix_cellX lo' hB', ld_cellX lo' hB', fa_cellX lo' hB', lf_wX lo' hB', lf_aX lo' hB', lf_rX lo' hB', sl_hiX lo' hB', sl_loX lo' hB', sl_lohiX lo' hB', d1, d2, go_sem, Nat.reduceDiv, Nat.reduceMod, Nat.reduceAdd, Nat.reduceSub, Nat.reduceEqDiff, Nat.reduceLeDiff, Nat.reduceLT, Nat.reduceMul, reduceIte, Nat.reducePow, Int.reduceEq]; rfl) ?_; (try dsimp only)))
  exact hands_tup (b := cblk 0 (putL l col.toNat m)) (by omega) (by simp (disch := (first | omega | exact zX | fail)) only [get_set, get_push, next_push, next_set, if_pos', if_neg', if_true, if_false, reduceIte]) rfl (flat_ces _)
theorem Set_no (hA : Sl 3 A (cesA l)) (hB : SlH H 3 B (cesA m)) (hl : l.length < 2 ^ 40) (hm : m.length < 2 ^ 40) (col : Int) (hc : -9223372036854775808 ≤ col ∧ col ≤ 9223372036854775807) (hok : ¬ setOk l col m) (hnf : [rowA A wr, .v (.int .i64 col), B].all nf = true) : CallR EO ys lo 23 [rowA A wr, .v (.int .i64 col), B] H (.tup [rowA A wr, .v (.bool false)]) H ⟨0, 0, 0⟩ := by
  refine (show newBits H.next 0 = 0 by simp [newBits]) ▸ WC.ownX (x := fun k => .tup [rowA A wr, .v (.bool false)]) (bs := fun _ => []) rfl hnf fun lo' H' hh => ?_
  have hA' : SlH H' 3 A (cesA l) := .inl hA
  have hB' := (hB.two (.inr ⟨[], .inr (by simp)⟩) hh)
  have hlo := lo_two hh
  have hA2 : SlH ((H'.push (rblk A wr)).push zblk) 3 A (cesA l) := (hA'.push _).push _
  have hB2 : SlH ((H'.push (rblk A wr)).push zblk) 3 B (cesA m) := (hB'.push _).push _
  refine zvin Tryz.func23 Tryz.ntmps23 ?_
  repeat' (first
   | refine zka ?_
   | refine zkb ?_
   | (apply RKp.op; ((try simp (disch := (first | ((try simp only [List.length_set, List.map_set, ces_len, setN_len, fixTo_len]); omega) | exact zX | exact zX | exact zO | fail)) only [len_cellX lo' hA', ix_cellX lo' hA', ld_cellX lo' hA', fa_cellX lo' hA', lf_wX lo' hA', lf_aX lo' hA', lf_rX lo' hA', sl_hiX lo' hA', sl_loX lo' hA', sl_lohiX lo' hA', len_cellX lo' hB', ix_cellX lo' hB', ld_cellX lo' hB', fa_cellX lo' hB', lf_wX lo' hB', lf_aX lo' hB', lf_rX lo' hB', sl_hiX lo' hB', sl_loX lo' hB', sl_lohiX lo' hB', go_sem, Nat.reduceDiv, Nat.reduceMod, Nat.reduceAdd, Nat.reduceSub, Nat.reduceEqDiff, Nat.reduceLeDiff, Nat.reduceLT, Nat.reduceMul, reduceIte, Nat.reducePow, Int.reduceEq]); exact zL); rfl)
   | (apply RKp.callR; ((first | apply May_R | apply sign_R) <;> (exact zD)); rfl; intro tr htr)
   | refine zkc ?_
   | apply RKg.tt
   | apply RKg.ff
   | refine zkd ?_
   | refine zke ?_
   | refine zkf ?_
   | (refine RKg.split (fun h => ?_) (fun h => ?_) <;> (try rw [h]) <;> (replace h := zB h) <;> (try (exfalso; first | exact h | omega)))
   | apply RK.nil
   | apply V.sq
   | apply V.bl
   | apply V.sc
   | apply V.skip
   | apply V.label
   | apply V.ret
   | apply V.exit
   | apply SeqQ.normal
   | apply SeqQ.ret
   | apply SeqQ.exit
   | apply BlockQ.normal
   | apply BlockQ.ret
   | apply BlockQ.here
   | refine zbt ?_
   | apply LoopS.ret
   | apply LoopS.exit
   | apply LoopF.ret
   | apply LoopF.exit
   | apply V.regK
   | refine zvd ?_
   | refine zve ?_
   | (refine zvf (fun h => ?_) (fun h => ?_) <;> (replace h := zB h) <;> (try (exfalso; first | exact h | omega)))
    | (refine FnQ.retB (resct Tryz.results23) (by simp (disch := (first | ((try simp only [List.length_set, List.map_set, ces_len, setN_len, fixTo_len]); omega) | exact zX | exact zX | exact zO | fail)) only [cellR_op, len_cellX lo' hA', ix_cellX lo' hA', ld_cellX lo' hA', fa_cellX lo' hA', lf_wX lo' hA', lf_aX lo' hA', lf_rX lo' hA', sl_hiX lo' hA', sl_loX lo' hA', sl_lohiX lo' hA', len_cellX lo' hB', ix_cellX lo' hB', ld_cellX lo' hB', fa_cellX lo' hB', lf_wX lo' hB', lf_aX lo' hB', lf_rX lo' hB', sl_hiX lo' hB', sl_loX lo' hB', sl_lohiX lo' hB', go_sem, Nat.reduceDiv, Nat.reduceMod, Nat.reduceAdd, Nat.reduceSub, Nat.reduceEqDiff, Nat.reduceLeDiff, Nat.reduceLT, Nat.reduceMul, reduceIte, Nat.reducePow, Int.reduceEq]; rfl) ?_; (try dsimp only)))
  all_goals first
    | exact hands_tup0 (flat_Sl hA)
    | (exfalso; unfold setOk at hok; omega)
    | (exfalso; apply hok; unfold setOk; refine ⟨?_, ?_, ?_, ?_⟩ <;> first | assumption | omega)
    | trace_state
theorem Erase_own (hA : Sl 3 A (cesA l)) (hl : l.length < 2 ^ 40) (a b : Int) (ha : -9223372036854775808 ≤ a ∧ a ≤ 9223372036854775807) (hb : -9223372036854775808 ≤ b ∧ b ≤ 9223372036854775807) (hok : eraOk l a b) (he : a ≠ b) (hnf : [rowA A wr, .v (.int .i64 a), .v (.int .i64 b)].all nf = true) : CallR EO ys lo 25 [rowA A wr, .v (.int .i64 a), .v (.int .i64 b)] H (.tup [rowA (.os H.next 0 0 l.length) (eraW l wr a b), .v (.bool true)]) (H.push (cblk 0 (putL l a.toNat (blanks (b.toNat - a.toNat))))) ⟨0, 2 ^ H.next, 0⟩ := by
  refine newBits_one H.next ▸ WC.ownX (x := fun k => .tup [rowA (.os k 0 0 l.length) (eraW l wr a b), .v (.bool true)]) (bs := fun _ => [cblk 0 (putL l a.toNat (blanks (b.toNat - a.toNat)))]) rfl hnf fun lo' H' hh => ?_
  have hA' : SlH H' 3 A (cesA l) := .inl hA
  have hlo := lo_two hh
  have hA2 : SlH ((H'.push (rblk A wr)).push zblk) 3 A (cesA l) := (hA'.push _).push _
  have hok' := hok
  obtain ⟨h1, h2, h3, h4⟩ := hok'
  have h5 := h1.1
  have d1 : decide (rowG l) = true := decide_eq_true h1
  have hcn : ((a.toNat : Nat) : Int) = a := by omega
  have hz : (l.getD a.toNat zeroC).w = 0 → 0 < a.toNat := fun e => (((h1.2 a.toNat (by omega)).2.1 e).1)
  have hbn : (min (max (b - a) 0) 300).toNat = b.toNat - a.toNat := by omega
  have hp := (put_own (ys := []) (lo := lo') (wr := wr) (H := (H'.push (rblk A wr)).push zblk) (B := .sl 3 (cesA (blanks (b.toNat - a.toNat)))) hA2 (.inl (.inl rfl)) hl a.toNat (by rw [blanks_len]; omega) (by rw [blanks_len]; omega) hz)
  rw [hcn] at hp
  have hpl := putL_len l a.toNat (blanks (b.toNat - a.toNat))
  refine zvin Tryz.func25 Tryz.ntmps25 ?_
  repeat' (first
   | refine zka ?_
   | refine zkb ?_
   | (apply RKp.op; ((try simp (disch := (first | ((try simp only [List.length_set, List.map_set, ces_len, setN_len, fixTo_len]); omega) | exact zX | exact zX | exact zO | fail)) only [len_cellX lo' hA', ix_cellX lo' hA', ld_cellX lo' hA', fa_cellX lo' hA', lf_wX lo' hA', lf_aX lo' hA', lf_rX lo' hA', sl_hiX lo' hA', sl_loX lo' hA', sl_lohiX lo' hA', d1, hbn, hpl, go_sem, Nat.reduceDiv, Nat.reduceMod, Nat.reduceAdd, Nat.reduceSub, Nat.reduceEqDiff, Nat.reduceLeDiff, Nat.reduceLT, Nat.reduceMul, reduceIte, Nat.reducePow, Int.reduceEq]); exact zL); rfl)
   | (apply RKp.callR; ((first | apply May_R | apply rowBlank_run) <;> (exact zD)); rfl; intro tr htr)
   | (apply RKp.callN; (apply hp <;> (exact zD)); rfl; intro tr htr)
   | refine zkc ?_
   | apply RKg.tt
   | apply RKg.ff
   | refine zkd ?_
   | refine zke ?_
   | refine zkf ?_
   | (refine RKg.split (fun h => ?_) (fun h => ?_) <;> (try rw [h]) <;> (replace h := zB h) <;> (try (exfalso; first | exact h | omega)))
   | apply RK.nil
   | apply V.sq
   | apply V.bl
   | apply V.sc
   | apply V.skip
   | apply V.label
   | apply V.ret
   | apply V.exit
   | apply SeqQ.normal
   | apply SeqQ.ret
   | apply SeqQ.exit
   | apply BlockQ.normal
   | apply BlockQ.ret
   | apply BlockQ.here
   | refine zbt ?_
   | apply LoopS.ret
   | apply LoopS.exit
   | apply LoopF.ret
   | apply LoopF.exit
   | apply V.regK
    | refine zva ?_
   | refine zvb ?_
   | refine zgc ?_
   | refine zvd ?_
   | refine zve ?_
   | (refine zvf (fun h => ?_) (fun h => ?_) <;> (replace h := zB h) <;> (try (exfalso; first | exact h | omega)))
    | (refine FnQ.retB (resct Tryz.results25) (by simp (disch := (first | ((try simp only [List.length_set, List.map_set, ces_len, setN_len, fixTo_len]); omega) | exact zX | exact zX | exact zO | fail)) only [cellR_op, len_cellX lo' hA', ix_cellX lo' hA', ld_cellX lo' hA', fa_cellX lo' hA', lf_wX lo' hA', lf_aX lo' hA', lf_rX lo' hA', sl_hiX lo' hA', sl_loX lo' hA', sl_lohiX lo' hA', d1, hbn, hpl, go_sem, Nat.reduceDiv, Nat.reduceMod, Nat.reduceAdd, Nat.reduceSub, Nat.reduceEqDiff, Nat.reduceLeDiff, Nat.reduceLT, Nat.reduceMul, reduceIte, Nat.reducePow, Int.reduceEq]; rfl) ?_; (try dsimp only)))
  all_goals have hw : (List.take l.length (cesA (putL l a.toNat (blanks (b.toNat - a.toNat))))).length = l.length := by rw [List.length_take, ces_len, putL_len, Nat.min_self]
  all_goals first
    | (have e1 : eraW l true a b = decide (b < l.length) := by (unfold eraW; simp [he])
       rw [hw, e1]
       exact hands_tup (b := cblk 0 (putL l a.toNat (blanks (b.toNat - a.toNat)))) (by omega) (by simp (disch := (first | omega | exact zX | fail)) only [get_set, get_push, next_push, next_set, if_pos', if_neg', if_true, if_false, reduceIte]) rfl (flat_ces _))
    | (have e1 : eraW l false a b = false := by simp [eraW]
       rw [e1]
       exact hands_tup (b := cblk 0 (putL l a.toNat (blanks (b.toNat - a.toNat)))) (by omega) (by simp (disch := (first | omega | exact zX | fail)) only [get_set, get_push, next_push, next_set, if_pos', if_neg', if_true, if_false, reduceIte]) rfl (flat_ces _))
    | trace_state
theorem Erase_no (hA : Sl 3 A (cesA l)) (hl : l.length < 2 ^ 40) (a b : Int) (hok : ¬ rowG l) (hnf : [rowA A wr, .v (.int .i64 a), .v (.int .i64 b)].all nf = true) : CallR EO ys lo 25 [rowA A wr, .v (.int .i64 a), .v (.int .i64 b)] H (.tup [rowA A wr, .v (.bool false)]) H ⟨0, 0, 0⟩ := by
  refine (show newBits H.next 0 = 0 by simp [newBits]) ▸ WC.ownX (x := fun k => .tup [rowA A wr, .v (.bool false)]) (bs := fun _ => []) rfl hnf fun lo' H' hh => ?_
  have hA' : SlH H' 3 A (cesA l) := .inl hA
  have hlo := lo_two hh
  have hA2 : SlH ((H'.push (rblk A wr)).push zblk) 3 A (cesA l) := (hA'.push _).push _
  have d1 : decide (rowG l) = false := decide_eq_false hok
  refine zvin Tryz.func25 Tryz.ntmps25 ?_
  repeat' (first
   | refine zka ?_
   | refine zkb ?_
   | (apply RKp.op; ((try simp (disch := (first | ((try simp only [List.length_set, List.map_set, ces_len, setN_len, fixTo_len]); omega) | exact zX | exact zX | exact zO | fail)) only [len_cellX lo' hA', ix_cellX lo' hA', ld_cellX lo' hA', fa_cellX lo' hA', lf_wX lo' hA', lf_aX lo' hA', lf_rX lo' hA', sl_hiX lo' hA', sl_loX lo' hA', sl_lohiX lo' hA', d1, go_sem, Nat.reduceDiv, Nat.reduceMod, Nat.reduceAdd, Nat.reduceSub, Nat.reduceEqDiff, Nat.reduceLeDiff, Nat.reduceLT, Nat.reduceMul, reduceIte, Nat.reducePow, Int.reduceEq]); exact zL); rfl)
   | (apply RKp.callR; (apply May_R <;> (exact zD)); rfl; intro tr htr)
   | refine zkc ?_
   | apply RKg.tt
   | apply RKg.ff
   | refine zkd ?_
   | refine zke ?_
   | refine zkf ?_
   | (refine RKg.split (fun h => ?_) (fun h => ?_) <;> (try rw [h]) <;> (replace h := zB h) <;> (try (exfalso; first | exact h | omega)))
   | apply RK.nil
   | apply V.sq
   | apply V.bl
   | apply V.sc
   | apply V.skip
   | apply V.label
   | apply V.ret
   | apply V.exit
   | apply SeqQ.normal
   | apply SeqQ.ret
   | apply SeqQ.exit
   | apply BlockQ.normal
   | apply BlockQ.ret
   | apply BlockQ.here
   | refine zbt ?_
   | apply LoopS.ret
   | apply LoopS.exit
   | apply LoopF.ret
   | apply LoopF.exit
   | apply V.regK
    | refine zva ?_
   | refine zvb ?_
   | refine zgc ?_
   | refine zvd ?_
   | refine zve ?_
   | (refine zvf (fun h => ?_) (fun h => ?_) <;> (replace h := zB h) <;> (try (exfalso; first | exact h | omega)))
    | (refine FnQ.retB (resct Tryz.results25) (by simp (disch := (first | ((try simp only [List.length_set, List.map_set, ces_len, setN_len, fixTo_len]); omega) | exact zX | exact zX | exact zO | fail)) only [cellR_op, len_cellX lo' hA', ix_cellX lo' hA', ld_cellX lo' hA', fa_cellX lo' hA', lf_wX lo' hA', lf_aX lo' hA', lf_rX lo' hA', sl_hiX lo' hA', sl_loX lo' hA', sl_lohiX lo' hA', d1, go_sem, Nat.reduceDiv, Nat.reduceMod, Nat.reduceAdd, Nat.reduceSub, Nat.reduceEqDiff, Nat.reduceLeDiff, Nat.reduceLT, Nat.reduceMul, reduceIte, Nat.reducePow, Int.reduceEq]; rfl) ?_; (try dsimp only)))
  all_goals first
    | exact hands_tup0 (flat_Sl hA)
    | trace_state
end
end Go.Am
