/- Parts of the proof: RRowG RRowH RRowI RRowJ. -/
import Derived.Test.YtmcimfmibpfnhaaGreatRRowF
set_option linter.all false
set_option linter.deprecated false

namespace Go.Am
variable {oc : Orc} [OrcI oc]
open Go.Proofs
set_option maxRecDepth 8000
set_option maxHeartbeats 4000000
/-! Facts about a slice of cells, on every heap that goes on from where it was. -/
section
variable (lo : Nat) {H0 : AHeap} {A : AV} {l : List Ce} (hA : SlH H0 3 A (cesA l)) (H : AHeap) (hx : Ext H0 H)
include hA hx
theorem len_cellX : primL lo H (builtinA (ELo oc) .len #[41] 3 [A]) = some (.v (.int .i64 l.length), H, rdTr A) := len_cell lo (hA.ext hx)
theorem ix_cellX (κ : IntKind) (z : Int) (h0 : 0 ≤ z) (h1 : z < l.length) : primL lo H (indexAddrA (ELo oc) 41 A (.v (.int κ z))) = some (ixA A (cesA l) z.toNat, H, rdTr A) := ix_cell lo (hA.ext hx) κ z h0 h1
theorem ld_cellX (j : Nat) (h : j < l.length) : primL lo H (loadA (ELo oc) 52 (ixA A (cesA l) j)) = some (.agg [.v (.int .i32 (l.getD j zeroC).r), .v (.int .i64 (l.getD j zeroC).w), .v (.int .i64 (l.getD j zeroC).a)], H, rdTr A) := ld_cell lo (hA.ext hx) j h
theorem fa_cellX (j f : Nat) (h : f < 3) : primL lo H (fieldAddrA (ELo oc) 52 f (ixA A (cesA l) j)) = some (fxA A (cesA l) j f, H, rdTr A) := fa_cell lo (hA.ext hx) j f h
theorem lf_wX (j : Nat) (h : j < l.length) : primL lo H (loadA (ELo oc) 3 (fxA A (cesA l) j 1)) = some (.v (.int .i64 (l.getD j zeroC).w), H, rdTr A) := lf_w lo (hA.ext hx) j h
theorem lf_aX (j : Nat) (h : j < l.length) : primL lo H (loadA (ELo oc) 3 (fxA A (cesA l) j 2)) = some (.v (.int .i64 (l.getD j zeroC).a), H, rdTr A) := lf_a lo (hA.ext hx) j h
theorem lf_rX (j : Nat) (h : j < l.length) : primL lo H (loadA (ELo oc) 21 (fxA A (cesA l) j 0)) = some (.v (.int .i32 (l.getD j zeroC).r), H, rdTr A) := lf_r lo (hA.ext hx) j h
theorem sl_hiX (κ : IntKind) (z : Int) (h0 : 0 ≤ z) (h1 : z ≤ l.length) : primL lo H (sliceA (ELo oc) 41 A none (some (.v (.int κ z))) none) = some (cutA A 0 z.toNat, H, rdTr A) := sl_hi lo (hA.ext hx) κ z h0 h1
theorem sl_loX (κ : IntKind) (z : Int) (h0 : 0 ≤ z) (h1 : z ≤ l.length) : primL lo H (sliceA (ELo oc) 41 A (some (.v (.int κ z))) none none) = some (cutA A z.toNat (cesA l).length, H, rdTr A) := sl_lo lo (hA.ext hx) κ z h0 h1
theorem sl_lohiX (κ κ' : IntKind) (y z : Int) (h : 0 ≤ y) (h0 : y ≤ z) (h1 : z ≤ l.length) : primL lo H (sliceA (ELo oc) 41 A (some (.v (.int κ y))) (some (.v (.int κ' z))) none) = some (cutA A y.toNat z.toNat, H, rdTr A) := sl_lohi lo (hA.ext hx) κ κ' y z h h0 h1
theorem app_cellX (h0 : l ≠ []) (hl : l.length < 2 ^ 40) : primL lo H (appendA (ELo oc) 41 (.v (.slice none 0 0)) A) = some (.os H.next 0 0 l.length, H.push (cblk 0 l), ⟨(rdTr A).rd, 2 ^ H.next, 0⟩) := by
  have := append_new (ELo oc) lo (t := 41) (s := .v (.slice none 0 0)) (.inr rfl) app_cell (hA.ext hx) (fun e => h0 (ces_nil.1 e)) (by rw [ces_len]; unfold roomMax; omega)
  rw [ces_len] at this; exact this
end
theorem app_cell0 (lo : Nat) {H0 : AHeap} {A : AV} (hA : SlH H0 3 A (cesA [])) (H : AHeap) (hx : Ext H0 H) : primL lo H (appendA (ELo oc) 41 (.v (.slice none 0 0)) A) = some (.v (.slice none 0 0), H, rdTr A) := append_new0 (ELo oc) lo (.inr rfl) app_cell (hA.ext hx)
theorem ces_set (l : List Ce) (i : Nat) (r w a : Int) : (cesA l).set i [.v (.int .i32 r), .v (.int .i64 w), .v (.int .i64 a)] = cesA (l.set i ⟨r, w, a⟩) := by
  rw [show [AV.v (.int .i32 r), .v (.int .i64 w), .v (.int .i64 a)] = ceA ⟨r, w, a⟩ from rfl]; exact List.map_set.symm
theorem hz3 (x y z : AV) : List.drop (0 + 3) [x, y, z] = [] := rfl
theorem drop3 (l : List Ce) (k : Nat) : List.drop 3 (nth [] (cesA l) k) = [] := by
  by_cases h : k < l.length
  · rw [nth_cesA l k h]; rfl
  · rw [nth_getD, List.getD_eq_getElem?_getD, List.getElem?_eq_none (by rw [ces_len]; omega)]; rfl
abbrev zblk : Blk := ⟨48, 2, 0, [[.v (.slice none 0 0), .v (.bool false)]], none⟩
section
variable {ys : List (Nat × LRec)} {lo : Nat} {H : AHeap} {A B : AV} {l m : List Ce} {wr wr' : Bool}
theorem law4Row_run (hA : SlH H 3 A (cesA l)) (hl : l.length < 2 ^ 63) : CallRoE (ELo oc) ys lo 65 [rowA A wr] H fun x => ∃ A', x = rowA A' wr ∧ Sl 3 A' (cesA (l.take 310)) := by
  refine WC.pureE rfl fun lo' H' hh => ?_
  have hA' := (hA.two (.inr ⟨[A, .v (.bool wr)], .inl (by simp)⟩) hh)
  have hlo := lo_two hh
  have hC' := cut_hi hA' (min l.length 310) (Nat.min_le_left _ _)
  have ht : l.take (min l.length 310) = l.take 310 := by
    rcases Nat.le_total l.length 310 with h | h
    · rw [Nat.min_eq_left h, List.take_of_length_le (Nat.le_refl _), List.take_of_length_le h]
    · rw [Nat.min_eq_right h]
  have e1 : (min (l.length : Int) 310).toNat = min l.length 310 := by omega
  rw [ht] at hC'
  by_cases h0 : l.take 310 = []
  · rw [h0] at hC'
    refine zvin Tryz.func65 Tryz.ntmps65 ?_
    repeat' (first | refine zka ?_ | refine zkb ?_ | (apply RKp.op; ((try simp (disch := (first | ((try simp only [List.length_set, List.map_set, ces_len, setN_len, fixTo_len]); omega) | exact zX | fail)) only [len_cellX lo' hA', ix_cellX lo' hA', ld_cellX lo' hA', fa_cellX lo' hA', lf_wX lo' hA', lf_aX lo' hA', lf_rX lo' hA', sl_hiX lo' hA', sl_loX lo' hA', sl_lohiX lo' hA', e1, app_cell0 lo' hC', go_sem, Nat.reduceDiv, Nat.reduceMod, Nat.reduceAdd, Nat.reduceSub, Nat.reduceEqDiff, Nat.reduceLeDiff, Nat.reduceLT, Nat.reduceMul, reduceIte, Nat.reducePow, Int.reduceEq]); exact zL); rfl) | refine zkc ?_ | apply RKg.tt | apply RKg.ff | refine zkd ?_ | refine zke ?_ | refine zkf ?_ | (refine RKg.split (fun h => ?_) (fun h => ?_) <;> (try rw [h]) <;> (replace h := zB h) <;> (try (exfalso; first | exact h | omega))) | apply RK.nil | apply V.sq | apply V.bl | apply V.sc | apply V.skip | apply V.label | apply V.ret | apply V.exit | apply SeqQ.normal | apply SeqQ.ret | apply SeqQ.exit | apply BlockQ.normal | apply BlockQ.ret | apply BlockQ.here | refine zbt ?_ | apply LoopS.ret | apply LoopS.exit | apply LoopF.ret | apply LoopF.exit | apply V.regK | refine zva ?_ | refine zvb ?_ | refine zvc ?_ | refine zvd ?_ | refine zve ?_ | (refine zvf (fun h => ?_) (fun h => ?_) <;> (replace h := zB h) <;> (try (exfalso; first | exact h | omega))) | (refine FnQ.retB (resc Tryz.results65) (by simp (disch := (first | ((try simp only [List.length_set, List.map_set, ces_len, setN_len, fixTo_len]); omega) | exact zX | fail)) only [cellR_op, len_cellX lo' hA', ix_cellX lo' hA', ld_cellX lo' hA', fa_cellX lo' hA', lf_wX lo' hA', lf_aX lo' hA', lf_rX lo' hA', sl_hiX lo' hA', sl_loX lo' hA', sl_lohiX lo' hA', e1, app_cell0 lo' hC', go_sem, Nat.reduceDiv, Nat.reduceMod, Nat.reduceAdd, Nat.reduceSub, Nat.reduceEqDiff, Nat.reduceLeDiff, Nat.reduceLT, Nat.reduceMul, reduceIte, Nat.reducePow, Int.reduceEq]; rfl) ?_; (try dsimp only)))
    exact ⟨nilA, rfl, .inr ⟨by rw [h0]; rfl, .inr rfl⟩⟩
  · have happ := fun H h => app_cellX lo' hC' H h h0 (by rw [List.length_take]; omega)
    refine zvin Tryz.func65 Tryz.ntmps65 ?_
    repeat' (first | refine zka ?_ | refine zkb ?_ | (apply RKp.op; ((try simp (disch := (first | ((try simp only [List.length_set, List.map_set, ces_len, setN_len, fixTo_len]); omega) | exact zX | fail)) only [len_cellX lo' hA', ix_cellX lo' hA', ld_cellX lo' hA', fa_cellX lo' hA', lf_wX lo' hA', lf_aX lo' hA', lf_rX lo' hA', sl_hiX lo' hA', sl_loX lo' hA', sl_lohiX lo' hA', e1, happ, go_sem, Nat.reduceDiv, Nat.reduceMod, Nat.reduceAdd, Nat.reduceSub, Nat.reduceEqDiff, Nat.reduceLeDiff, Nat.reduceLT, Nat.reduceMul, reduceIte, Nat.reducePow, Int.reduceEq]); exact zL); rfl) | refine zkc ?_ | apply RKg.tt | apply RKg.ff | refine zkd ?_ | refine zke ?_ | refine zkf ?_ | (refine RKg.split (fun h => ?_) (fun h => ?_) <;> (try rw [h]) <;> (replace h := zB h) <;> (try (exfalso; first | exact h | omega))) | apply RK.nil | apply V.sq | apply V.bl | apply V.sc | apply V.skip | apply V.label | apply V.ret | apply V.exit | apply SeqQ.normal | apply SeqQ.ret | apply SeqQ.exit | apply BlockQ.normal | apply BlockQ.ret | apply BlockQ.here | refine zbt ?_ | apply LoopS.ret | apply LoopS.exit | apply LoopF.ret | apply LoopF.exit | apply V.regK | refine zva ?_ | refine zvb ?_ | refine zvc ?_ | refine zvd ?_ | refine zve ?_ | (refine zvf (fun h => ?_) (fun h => ?_) <;> (replace h := zB h) <;> (try (exfalso; first | exact h | omega))) | (refine FnQ.retB (resc Tryz.results65) (by simp (disch := (first | ((try simp only [List.length_set, List.map_set, ces_len, setN_len, fixTo_len]); omega) | exact zX | fail)) only [cellR_op, len_cellX lo' hA', ix_cellX lo' hA', ld_cellX lo' hA', fa_cellX lo' hA', lf_wX lo' hA', lf_aX lo' hA', lf_rX lo' hA', sl_hiX lo' hA', sl_loX lo' hA', sl_lohiX lo' hA', e1, happ, go_sem, Nat.reduceDiv, Nat.reduceMod, Nat.reduceAdd, Nat.reduceSub, Nat.reduceEqDiff, Nat.reduceLeDiff, Nat.reduceLT, Nat.reduceMul, reduceIte, Nat.reducePow, Int.reduceEq]; rfl) ?_; (try dsimp only)))
    refine ⟨.sl 3 (cesA (l.take 310)), ?_, .inl rfl⟩
    rw [frzR_agg, List.map_cons, List.map_cons, List.map_nil, frzC_v, osC_frz (by omega) (by simp (disch := (first | omega | exact zX | fail)) only [get_set, get_push, next_push, next_set, if_pos', if_neg', if_true, if_false, reduceIte])]
end
end Go.Am

namespace Go.Am
variable {oc : Orc} [OrcI oc]
open Go.Proofs
set_option maxRecDepth 8000
set_option maxHeartbeats 4000000
section
variable {ys : List (Nat × LRec)} {lo : Nat} {H : AHeap} {A B : AV} {l m : List Ce} {wr wr' : Bool}
end
end Go.Am

namespace Go.Am
variable {oc : Orc} [OrcI oc]
open Go.Proofs
set_option maxRecDepth 8000
set_option maxHeartbeats 4000000
section
variable {ys : List (Nat × LRec)} {lo : Nat} {H : AHeap} {A B : AV} {l m : List Ce} {wr wr' : Bool}
end
end Go.Am

namespace Go.Am
variable {oc : Orc} [OrcI oc]
open Go.Proofs
set_option maxRecDepth 8000
set_option maxHeartbeats 4000000
section
variable {ys : List (Nat × LRec)} {lo : Nat} {H : AHeap} {A B : AV} {l m : List Ce} {wr wr' : Bool}
theorem May_R (hA : SlH H 3 A (cesA l)) (hl : l.length < 2 ^ 40) : CallRo (ELo oc) ys lo 106 [rowA A wr] H (.v (.bool (decide (rowG l)))) := by
  refine WC.pureR rfl fun lo' H' hh => ?_
  have hA' := (hA.two (.inr ⟨[A, .v (.bool wr)], .inl (by simp)⟩) hh)
  obtain ⟨n, r, H'', h1, rfl⟩ := rowMay_wc lo' H' A l wr hA' (by rw [lo_two hh]; exact Nat.le_refl _) hl
  refine ⟨n, _, H'', h1, ?_⟩
  show frzR H'' lo' (.v _) = _
  rw [frzR_v]; congr 2; rw [decide_eq_decide]; exact rowG_P l
theorem Row_R (hA : SlH H 3 A (cesA l)) (hl : l.length < 2 ^ 40) (h32 : R32 l) : CallRo (ELo oc) ys lo 40 [rowA A wr] H (.v (.bool (decide (rowG l)))) := by
  refine WC.pureR rfl fun lo' H' hh => ?_
  have hA' := (hA.two (.inr ⟨[A, .v (.bool wr)], .inl (by simp)⟩) hh)
  obtain ⟨n, r, H'', h1, rfl⟩ := refRow_wc lo' H' A l wr hA' (by rw [lo_two hh]; exact Nat.le_refl _) hl h32
  refine ⟨n, _, H'', h1, ?_⟩
  show frzR H'' lo' (.v _) = _
  rw [frzR_v]; congr 2; rw [decide_eq_decide]; exact rowG_R l
/-- What Set is told to do may be done. -/
def setOk (l : List Ce) (col : Int) (m : List Ce) : Prop := rowG l ∧ signI m ∧ 0 ≤ col ∧ col ≤ (l.length : Int) - m.length
instance (l : List Ce) (col : Int) (m : List Ce) : Decidable (setOk l col m) := inferInstanceAs (Decidable (_ ∧ _))

end
end Go.Am
