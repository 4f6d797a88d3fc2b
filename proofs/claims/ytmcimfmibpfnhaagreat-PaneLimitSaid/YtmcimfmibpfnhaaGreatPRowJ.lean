/- Parts of the proof: PRowG PRowH PRowI PRowJ. -/
import Derived.Test.YtmcimfmibpfnhaaGreatPRowF
set_option linter.all false
set_option linter.deprecated false

namespace Go.Am
variable {oc : Orc} [OrcI oc]
open Go.Proofs
set_option maxRecDepth 8000
set_option maxHeartbeats 4000000
/-! Facts about a slice of cells, on every heap that goes on from where it was. -/
section
variable (lo : Nat) {H0 : AHeap} {A : AV} {l : List Ce} (hA : SlH H0 3 A (cesA l)) (H : AHeap) (hx : Ext H0 H)
include hA hx
theorem len_cellX : primL lo H (builtinA (ELo oc) .len #[41] 3 [A]) = some (.v (.int .i64 l.length), H, rdTr A) := len_cell lo (hA.ext hx)
theorem ix_cellX (κ : IntKind) (z : Int) (h0 : 0 ≤ z) (h1 : z < l.length) : primL lo H (indexAddrA (ELo oc) 41 A (.v (.int κ z))) = some (ixA A (cesA l) z.toNat, H, rdTr A) := ix_cell lo (hA.ext hx) κ z h0 h1
theorem ld_cellX (j : Nat) (h : j < l.length) : primL lo H (loadA (ELo oc) 52 (ixA A (cesA l) j)) = some (.agg [.v (.int .i32 (l.getD j zeroC).r), .v (.int .i64 (l.getD j zeroC).w), .v (.int .i64 (l.getD j zeroC).a)], H, rdTr A) := ld_cell lo (hA.ext hx) j h
theorem fa_cellX (j f : Nat) (h : f < 3) : primL lo H (fieldAddrA (ELo oc) 52 f (ixA A (cesA l) j)) = some (fxA A (cesA l) j f, H, rdTr A) := fa_cell lo (hA.ext hx) j f h
theorem lf_wX (j : Nat) (h : j < l.length) : primL lo H (loadA (ELo oc) 3 (fxA A (cesA l) j 1)) = some (.v (.int .i64 (l.getD j zeroC).w), H, rdTr A) := lf_w lo (hA.ext hx) j h
theorem lf_aX (j : Nat) (h : j < l.length) : primL lo H (loadA (ELo oc) 3 (fxA A (cesA l) j 2)) = some (.v (.int .i64 (l.getD j zeroC).a), H, rdTr A) := lf_a lo (hA.ext hx) j h
theorem lf_rX (j : Nat) (h : j < l.length) : primL lo H (loadA (ELo oc) 21 (fxA A (cesA l) j 0)) = some (.v (.int .i32 (l.getD j zeroC).r), H, rdTr A) := lf_r lo (hA.ext hx) j h
theorem sl_hiX (κ : IntKind) (z : Int) (h0 : 0 ≤ z) (h1 : z ≤ l.length) : primL lo H (sliceA (ELo oc) 41 A none (some (.v (.int κ z))) none) = some (cutA A 0 z.toNat, H, rdTr A) := sl_hi lo (hA.ext hx) κ z h0 h1
theorem sl_loX (κ : IntKind) (z : Int) (h0 : 0 ≤ z) (h1 : z ≤ l.length) : primL lo H (sliceA (ELo oc) 41 A (some (.v (.int κ z))) none none) = some (cutA A z.toNat (cesA l).length, H, rdTr A) := sl_lo lo (hA.ext hx) κ z h0 h1
theorem sl_lohiX (κ κ' : IntKind) (y z : Int) (h : 0 ≤ y) (h0 : y ≤ z) (h1 : z ≤ l.length) : primL lo H (sliceA (ELo oc) 41 A (some (.v (.int κ y))) (some (.v (.int κ' z))) none) = some (cutA A y.toNat z.toNat, H, rdTr A) := sl_lohi lo (hA.ext hx) κ κ' y z h h0 h1
end
theorem ces_set (l : List Ce) (i : Nat) (r w a : Int) : (cesA l).set i [.v (.int .i32 r), .v (.int .i64 w), .v (.int .i64 a)] = cesA (l.set i ⟨r, w, a⟩) := by
  rw [show [AV.v (.int .i32 r), .v (.int .i64 w), .v (.int .i64 a)] = ceA ⟨r, w, a⟩ from rfl]; exact List.map_set.symm
theorem hz3 (x y z : AV) : List.drop (0 + 3) [x, y, z] = [] := rfl
theorem drop3 (l : List Ce) (k : Nat) : List.drop 3 (nth [] (cesA l) k) = [] := by
  by_cases h : k < l.length
  · rw [nth_cesA l k h]; rfl
  · rw [nth_getD, List.getD_eq_getElem?_getD, List.getElem?_eq_none (by rw [ces_len]; omega)]; rfl
abbrev zblk : Blk := ⟨48, 2, 0, [[.v (.slice none 0 0), .v (.bool false)]], none⟩
section
variable {ys : List (Nat × LRec)} {lo : Nat} {H : AHeap} {A B : AV} {l m : List Ce} {wr wr' : Bool}
theorem osC_frz2 {H : AHeap} {lo n e len : Nat} {l : List Ce} (hl : lo ≤ n) (hb : H.get n = some (cblk e l)) (hlen : len = l.length) : frzC H lo (.os n e 0 len) = .sl 3 (cesA l) := by subst hlen; exact osC_frz hl hb
theorem put_fin (l m : List Ce) (col : Nat) (l2 : List Ce) (h2 : l2.length = l.length) (h3 : ∀ j, j < l.length → ¬(col ≤ j ∧ j < col + m.length) → l2.getD j zeroC = if j + 1 = col ∧ (l.getD col zeroC).w = 0 then blankC else if j = col + m.length ∧ (l.getD j zeroC).w = 0 then blankC else l.getD j zeroC) : setN l2 col m m.length = putL l col m := by
  refine ce_ext (by rw [setN_len, putL_len, h2]) fun j hj => ?_
  rw [setN_len, h2] at hj
  rw [setN_at _ _ _ _ _ (by rw [h2]; exact hj), putL_at _ _ _ _ hj]
  by_cases c : col ≤ j ∧ j < col + m.length
  · rw [if_pos c, if_pos c]
  · rw [if_neg c, if_neg c, h3 j hj c]
theorem put_run (hA : SlH H 3 A (cesA l)) (hB : SlH H 3 B (cesA m)) (hl : l.length < 2 ^ 40) (col : Nat) (hm : 0 < m.length) (hb : col + m.length ≤ l.length) (hz : (l.getD col zeroC).w = 0 → 0 < col) : CallRo (ELo oc) ys lo 171 [rowA A wr, .v (.int .i64 col), B] H (rowA (.sl 3 (cesA (putL l col m))) wr) := by
  refine WC.pureR rfl fun lo' H' hh => ?_
  have hA' := (hA.two (.inr ⟨[A, .v (.bool wr)], .inl (by simp)⟩) hh)
  have hB' := (hB.two (.inr ⟨[], .inr (by simp)⟩) hh)
  have hlo := lo_two hh
  have hA1 : SlH ((H'.push (rblk A wr)).push zblk) 3 A (cesA l) := (hA'.push _).push _
  have h0 : l ≠ [] := by rintro rfl; rw [List.length_nil] at hb; omega
  have e1 : ((col : Int) - 1).toNat = col - 1 := by omega
  have e2 : ((col : Int) + m.length).toNat = col + m.length := by omega
  refine zvin Tryz.func171 Tryz.ntmps171 ?_
  repeat' (first | refine zka ?_ | refine zkb ?_ | (apply RKp.op; ((try simp (disch := (first | ((try simp only [List.length_set, List.map_set, ces_len, setN_len, fixTo_len]); omega) | exact zX | fail)) only [len_cellX lo' hB', ix_cellX lo' hB', ld_cellX lo' hB', fa_cellX lo' hB', lf_wX lo' hB', lf_aX lo' hB', lf_rX lo' hB', sl_hiX lo' hB', sl_loX lo' hB', sl_lohiX lo' hB', nth_cesA, ces_set, ces_len, List.length_set, List.length_take, Nat.min_self, hz3, drop3, Int.toNat_natCast, e1, e2, go_sem]); exact zL); rfl) | (apply RKp.call; (apply Blank_run <;> (exact zD)); rfl) | (apply RKp.callO; (apply Clone_run <;> (exact zD)); rfl; intro tr) | refine zkc ?_ | refine zz ?_ | refine zkd ?_ | refine zke ?_ | refine zkf ?_ | (refine RKg.split (fun h => ?_) (fun h => ?_) <;> (try rw [h]) <;> (replace h := zB h) <;> (try (exfalso; first | exact h | omega))) | refine zbt ?_ | apply V.regK | refine zva ?_ | refine zvb ?_ | refine zvc ?_ | refine zvd ?_ | refine zve ?_ | (refine zvf (fun h => ?_) (fun h => ?_) <;> (replace h := zB h) <;> (try (exfalso; first | exact h | omega))) | (refine FnQ.retB (resc Tryz.results171) (by simp (disch := (first | ((try simp only [List.length_set, List.map_set, ces_len, setN_len, fixTo_len]); omega) | exact zX | fail)) only [cellR_op, len_cellX lo' hB', ix_cellX lo' hB', ld_cellX lo' hB', fa_cellX lo' hB', lf_wX lo' hB', lf_aX lo' hB', lf_rX lo' hB', sl_hiX lo' hB', sl_loX lo' hB', sl_lohiX lo' hB', nth_cesA, ces_set, ces_len, List.length_set, List.length_take, Nat.min_self, hz3, drop3, Int.toNat_natCast, e1, e2, go_sem]; rfl) ?_; (try dsimp only)))
  all_goals
    apply V.lpS [52, 8, 9, 53, 54, 55, 56, 57, 58, 59, 60, 61, 62, 63, 64] (fun k xs H2 => ∃ (i : Nat) (g : _), xs = .v (.int .i64 i) :: g ∧ k = m.length - i ∧ i ≤ m.length ∧ Ext H' H2 ∧ H'.next + 3 ≤ H2.next ∧
      H2.get H'.next = some ⟨48, 2, 0, [[.os (H'.next + 1 + 1) 0 0 l.length, .v (.bool wr)]], none⟩ ∧ H2.get (H'.next + 1) = some zblk ∧
      ∃ l2, H2.get (H'.next + 1 + 1) = some (cblk 0 (setN l2 col m i)) ∧ l2.length = l.length ∧ setN l2 col m m.length = putL l col m) m.length
    focus (intro xs; simp only [putMany, set2, Nat.reduceAdd, Nat.reduceDiv, Nat.reduceMod, nth_zero, nth_succ, List.set_cons_zero, List.set_cons_succ]; rfl)
    focus (first | rfl | simp only [readMany, nth_zero, nth_succ, Nat.reduceDiv, Nat.reduceMod])
    · refine ⟨0, _, rfl, rfl, Nat.zero_le _, by exact zX, by (first | omega | (simp only [next_push, next_set, next_empty]; done) | (simp only [next_push, next_set, next_empty]; omega)), by simp (disch := (first | omega | exact zX | fail)) only [get_set, get_push, next_push, next_set, if_pos', if_neg', if_true, if_false, reduceIte], by simp (disch := (first | omega | exact zX | fail)) only [get_set, get_push, next_push, next_set, if_pos', if_neg', if_true, if_false, reduceIte], ?_⟩
      apply Exists.intro
      apply And.intro
      · simp (disch := (first | omega | exact zX | fail)) only [get_set, get_push, next_push, next_set, if_pos', if_neg', if_true, if_false, reduceIte]; rfl
      · refine ⟨by simp only [List.length_set], put_fin _ _ _ _ (by simp only [List.length_set]) fun j hj hn => ?_⟩
        (try simp only [ce_set, List.length_set] at h)
        (try simp only [ce_set, List.length_set])
        first
        | grind
        | (trace_state; sorry)
    · rintro k xs H2 ⟨i, g, rfl, rfl, hi, hx, hn, g0, g1, l2, g2, hl2, hfin⟩
      have e3 : ((col : Int) + i).toNat = col + i := by omega
      have n1 : ¬ H2.next = H'.next := by omega
      have n2 : ¬ H2.next = H'.next + 1 := by omega
      have n3 : ¬ H2.next = H'.next + 1 + 1 := by omega
      repeat' (first | refine zka ?_ | refine zkb ?_ | (apply RKp.op; ((try simp (disch := (first | ((try simp only [List.length_set, List.map_set, ces_len, setN_len, fixTo_len]); omega) | exact zX | fail)) only [len_cellX lo' hB', ix_cellX lo' hB', ld_cellX lo' hB', fa_cellX lo' hB', lf_wX lo' hB', lf_aX lo' hB', lf_rX lo' hB', sl_hiX lo' hB', sl_loX lo' hB', sl_lohiX lo' hB', g0, g1, g2, n1, n2, n3, ces_set, ces_len, List.length_set, setN_len, hl2, List.length_take, Nat.min_self, hz3, drop3, Int.toNat_natCast, e3, go_sem]); exact zL); rfl) | refine zkc ?_ | refine zz ?_ | refine zkd ?_ | refine zke ?_ | refine zkf ?_ | (refine RKg.split (fun h => ?_) (fun h => ?_) <;> (try rw [h]) <;> (replace h := zB h) <;> (try (exfalso; first | exact h | omega))) | refine zbt ?_ | apply V.regK | refine zva ?_ | refine zvb ?_ | refine zvc ?_ | refine zvd ?_ | refine zve ?_ | (refine zvf (fun h => ?_) (fun h => ?_) <;> (replace h := zB h) <;> (try (exfalso; first | exact h | omega))) | (refine FnQ.retB (resc Tryz.results171) (by simp (disch := (first | ((try simp only [List.length_set, List.map_set, ces_len, setN_len, fixTo_len]); omega) | exact zX | fail)) only [cellR_op, len_cellX lo' hB', ix_cellX lo' hB', ld_cellX lo' hB', fa_cellX lo' hB', lf_wX lo' hB', lf_aX lo' hB', lf_rX lo' hB', sl_hiX lo' hB', sl_loX lo' hB', sl_lohiX lo' hB', g0, g1, g2, n1, n2, n3, ces_set, ces_len, List.length_set, setN_len, hl2, List.length_take, Nat.min_self, hz3, drop3, Int.toNat_natCast, e3, go_sem]; rfl) ?_; (try dsimp only)))
      · refine LoopS.again (m.length - (i + 1)) (by rfl) (by omega) ⟨i + 1, _, rfl, rfl, by omega, by exact zX, by (first | omega | (simp only [next_push, next_set, next_empty]; done) | (simp only [next_push, next_set, next_empty]; omega)), by simp (disch := (first | omega | exact zX | fail)) only [get_set, get_push, next_push, next_set, if_pos', if_neg', if_true, if_false, reduceIte, g0, g1, g2], by simp (disch := (first | omega | exact zX | fail)) only [get_set, get_push, next_push, next_set, if_pos', if_neg', if_true, if_false, reduceIte, g0, g1, g2], l2, ?_, hl2, hfin⟩
        simp (disch := (first | omega | exact zX | fail)) only [get_set, get_push, next_push, next_set, if_pos', if_neg', if_true, if_false, reduceIte, g0, g1, g2]; rfl
      · have : i = m.length := by omega
        subst this
        rw [frzR_agg, List.map_cons, List.map_cons, List.map_nil, frzC_v, osC_frz2 (l := putL l col m) (e := 0) (by omega) (by rw [← hfin]; simp (disch := (first | omega | exact zX | fail)) only [get_set, get_push, next_push, next_set, if_pos', if_neg', if_true, if_false, reduceIte, g0, g1, g2]) (by rw [putL_len])]
end
end Go.Am

namespace Go.Am
variable {oc : Orc} [OrcI oc]
open Go.Proofs
set_option maxRecDepth 8000
set_option maxHeartbeats 4000000
section
variable {ys : List (Nat × LRec)} {lo : Nat} {H : AHeap} {A B : AV} {l m : List Ce} {wr wr' : Bool}
end
end Go.Am

namespace Go.Am
variable {oc : Orc} [OrcI oc]
open Go.Proofs
set_option maxRecDepth 8000
set_option maxHeartbeats 4000000
theorem blanks_succ (i : Nat) : cesA (blanks i) ++ [[.v (.int .i32 32), .v (.int .i64 1), .v (.int .i64 0)]] = cesA (blanks (i + 1)) := by
  show _ = cesA (List.replicate (i + 1) blankC)
  rw [List.replicate_succ']; simp [blanks]
section
variable {ys : List (Nat × LRec)} {lo : Nat} {H : AHeap} {A B : AV} {l m : List Ce} {wr wr' : Bool}
end
end Go.Am

namespace Go.Am
variable {oc : Orc} [OrcI oc]
open Go.Proofs
set_option maxRecDepth 8000
set_option maxHeartbeats 4000000
section
variable {ys : List (Nat × LRec)} {lo : Nat} {H : AHeap} {A B : AV} {l m : List Ce} {wr wr' : Bool}
theorem ofC_len (r a : Int) : (ofC r a).length < 2 ^ 40 := by unfold ofC; split <;> (try split) <;> simp
theorem May_R (hA : SlH H 3 A (cesA l)) (hl : l.length < 2 ^ 40) : CallRo (ELo oc) ys lo 106 [rowA A wr] H (.v (.bool (decide (rowG l)))) := by
  refine WC.pureR rfl fun lo' H' hh => ?_
  have hA' := (hA.two (.inr ⟨[A, .v (.bool wr)], .inl (by simp)⟩) hh)
  obtain ⟨n, r, H'', h1, rfl⟩ := rowMay_wc lo' H' A l wr hA' (by rw [lo_two hh]; exact Nat.le_refl _) hl
  refine ⟨n, _, H'', h1, ?_⟩
  show frzR H'' lo' (.v _) = _
  rw [frzR_v]; congr 2; rw [decide_eq_decide]; exact rowG_P l
theorem sign_R (hB : SlH H 3 B (cesA m)) (hm : m.length < 2 ^ 40) : CallRo (ELo oc) ys lo 170 [B] H (.v (.bool (decide (signI m)))) := by
  refine WC.pureR rfl fun lo' H' hh => ?_
  have hB' := (hB.two (.inr ⟨[], .inr (by simp)⟩) hh)
  have hof : SlH H' 3 (ofA (m.getD 0 zeroC).r (m.getD 0 zeroC).a) (cesA (ofC (m.getD 0 zeroC).r (m.getD 0 zeroC).a)) := .inl (ofA_Sl _ _)
  have hol := ofC_len (m.getD 0 zeroC).r (m.getD 0 zeroC).a
  refine zvin Tryz.func170 Tryz.ntmps170 ?_
  repeat' (first | refine zka ?_ | refine zkb ?_ | (apply RKp.op; ((try simp (disch := (first | omega | exact zX | fail)) only [len_cellX lo' hB', ix_cellX lo' hB', ld_cellX lo' hB', fa_cellX lo' hB', lf_wX lo' hB', lf_aX lo' hB', lf_rX lo' hB', sl_hiX lo' hB', sl_loX lo' hB', sl_lohiX lo' hB', Int.toNat_zero, go_sem]); exact zL); rfl) | (apply RKp.call; ((first | apply IsPad_run | apply Of_run) <;> (exact zD)); rfl) | (apply RKp.callR; (apply Equal_run <;> (exact zD)); rfl; intro tr htr) | refine zkc ?_ | refine zz ?_ | refine zkd ?_ | refine zke ?_ | refine zkf ?_ | (refine RKg.split (fun h => ?_) (fun h => ?_) <;> (try rw [h]) <;> (replace h := zB h) <;> (try (exfalso; first | exact h | omega))) | refine zbt ?_ | apply V.regK | refine zva ?_ | refine zvb ?_ | refine zvc ?_ | refine zvd ?_ | refine zve ?_ | (refine zvf (fun h => ?_) (fun h => ?_) <;> (replace h := zB h) <;> (try (exfalso; first | exact h | omega))) | (refine zfc Tryz.results170 ?_; (try dsimp only)))
  all_goals
    (rw [frzR_v]; congr 2; rw [Bool.eq_iff_iff, decide_eq_true_eq]
     match m with
     | [] => first | (simp [signI]; done) | (simp at *; done)
     | c :: t =>
       have hs := signI_of c t
       have hz : (t = []) ↔ ((c :: t).length = 1) := by cases t <;> simp
       have hp : c = padC ↔ c.r = 0 ∧ c.w = 1 ∧ c.a = 0 := Ce.eqv
       simp only [List.getD_cons_zero, List.length_cons, decide_eq_true_eq] at *
       rw [← hs, hp]
       first
       | (grind)
       | trace_state)
theorem frzC_own {H0 H : AHeap} {lo : Nat} {A : AV} {sz : Nat} {es : List (List AV)} (h : SlH H0 sz A es) (hlo : lo = H0.next) : frzC H lo A = A := by
  rcases h with (rfl | ⟨_, rfl | rfl⟩) | ⟨n, e, off, b, rfl, hn, _⟩
  · rfl
  · rfl
  · rfl
  · show renC H lo 0 [] frzDepth (.os n e off es.length) = _
    simp only [renC, if_pos (by omega : n < lo)]

/-- What Set is told to do may be done. -/
def setOk (l : List Ce) (col : Int) (m : List Ce) : Prop := rowG l ∧ signI m ∧ 0 ≤ col ∧ col ≤ (l.length : Int) - m.length
instance (l : List Ce) (col : Int) (m : List Ce) : Decidable (setOk l col m) := inferInstanceAs (Decidable (_ ∧ _))

/-- What Set tells. -/
def SetP (l : List Ce) (wr : Bool) (A : AV) (col : Int) (m : List Ce) (x : AV) : Prop :=
  (setOk l col m ∧ ∃ A', x = .tup [rowA A' wr, .v (.bool true)] ∧ Sl 3 A' (cesA (putL l col.toNat m))) ∨ (¬ setOk l col m ∧ x = .tup [rowA A wr, .v (.bool false)])
theorem Set_run (hA : SlH H 3 A (cesA l)) (hB : SlH H 3 B (cesA m)) (hl : l.length < 2 ^ 40) (hm : m.length < 2 ^ 40) (col : Int) (hc : -9223372036854775808 ≤ col ∧ col ≤ 9223372036854775807) : CallRoE (ELo oc) ys lo 144 [rowA A wr, .v (.int .i64 col), B] H (SetP l wr A col m) := by
  refine WC.pureE rfl fun lo' H' hh => ?_
  have hA' := (hA.two (.inr ⟨[A, .v (.bool wr)], .inl (by simp)⟩) hh)
  have hB' := (hB.two (.inr ⟨[], .inr (by simp)⟩) hh)
  have hlo := lo_two hh
  have hA2 : SlH ((H'.push (rblk A wr)).push zblk) 3 A (cesA l) := (hA'.push _).push _
  have hB2 : SlH ((H'.push (rblk A wr)).push zblk) 3 B (cesA m) := (hB'.push _).push _
  by_cases hok : setOk l col m
  · have hok' := hok
    obtain ⟨h1, h2, h3, h4⟩ := hok'
    have hcn : ((col.toNat : Nat) : Int) = col := by omega
    have hp := fun hx => put_run (ys := []) (lo := lo') (wr := wr) (H := (H'.push (rblk A wr)).push zblk) hA2 hB2 hl col.toNat (by have := (signI_G h2).len; omega) (by have := (signI_G h2).len; omega) hx
    rw [hcn] at hp
    have hz : (l.getD col.toNat zeroC).w = 0 → 0 < col.toNat := fun e => (((h1.2 col.toNat (by have := (signI_G h2).len; omega)).2.1 e).1)
    have hp := hp hz
    have d1 : decide (rowG l) = true := decide_eq_true h1
    have d2 : decide (signI m) = true := decide_eq_true h2
    refine zvin Tryz.func144 Tryz.ntmps144 ?_
    repeat' (first | refine zka ?_ | refine zkb ?_ | (apply RKp.op; ((try simp (disch := (first | omega | exact zX | fail)) only [len_cellX lo' hA', ix_cellX lo' hA', ld_cellX lo' hA', fa_cellX lo' hA', lf_wX lo' hA', lf_aX lo' hA', lf_rX lo' hA', sl_hiX lo' hA', sl_loX lo' hA', sl_lohiX lo' hA', len_cellX lo' hB', ix_cellX lo' hB', ld_cellX lo' hB', fa_cellX lo' hB', lf_wX lo' hB', lf_aX lo' hB', lf_rX lo' hB', sl_hiX lo' hB', sl_loX lo' hB', sl_lohiX lo' hB', d1, d2, go_sem]); exact zL); rfl) | (apply RKp.call; (apply hp <;> (exact zD)); rfl) | (apply RKp.callR; ((first | apply May_R | apply sign_R | apply hp) <;> (exact zD)); rfl; intro tr htr) | (apply RKp.callO; (apply hp <;> (exact zD)); rfl; intro tr) | (apply RKp.callRE; (apply hp <;> (exact zD)); (intro x; rfl)) | (apply RKp.callE; (apply hp <;> (exact zD)); (intro x; rfl)) | refine zkc ?_ | refine zz ?_ | refine zkd ?_ | refine zke ?_ | refine zkf ?_ | (refine RKg.split (fun h => ?_) (fun h => ?_) <;> (try rw [h]) <;> (replace h := zB h) <;> (try (exfalso; first | exact h | omega))) | refine zbt ?_ | apply V.regK | refine zvd ?_ | refine zve ?_ | (refine zvf (fun h => ?_) (fun h => ?_) <;> (replace h := zB h) <;> (try (exfalso; first | exact h | omega))) | (refine FnQ.retB (resct Tryz.results144) (by simp (disch := (first | omega | exact zX | fail)) only [cellR_op, len_cellX lo' hA', ix_cellX lo' hA', ld_cellX lo' hA', fa_cellX lo' hA', lf_wX lo' hA', lf_aX lo' hA', lf_rX lo' hA', sl_hiX lo' hA', sl_loX lo' hA', sl_lohiX lo' hA', len_cellX lo' hB', ix_cellX lo' hB', ld_cellX lo' hB', fa_cellX lo' hB', lf_wX lo' hB', lf_aX lo' hB', lf_rX lo' hB', sl_hiX lo' hB', sl_loX lo' hB', sl_lohiX lo' hB', d1, d2, go_sem]; rfl) ?_; (try dsimp only)))
    refine .inl ⟨hok, .sl 3 (cesA (putL l col.toNat m)), ?_, .inl rfl⟩
    rfl
  · refine zvin Tryz.func144 Tryz.ntmps144 ?_
    repeat' (first | refine zka ?_ | refine zkb ?_ | (apply RKp.op; ((try simp (disch := (first | omega | exact zX | fail)) only [len_cellX lo' hA', ix_cellX lo' hA', ld_cellX lo' hA', fa_cellX lo' hA', lf_wX lo' hA', lf_aX lo' hA', lf_rX lo' hA', sl_hiX lo' hA', sl_loX lo' hA', sl_lohiX lo' hA', len_cellX lo' hB', ix_cellX lo' hB', ld_cellX lo' hB', fa_cellX lo' hB', lf_wX lo' hB', lf_aX lo' hB', lf_rX lo' hB', sl_hiX lo' hB', sl_loX lo' hB', sl_lohiX lo' hB', go_sem]); exact zL); rfl) | (apply RKp.callR; ((first | apply May_R | apply sign_R) <;> (exact zD)); rfl; intro tr htr) | refine zkc ?_ | refine zz ?_ | refine zkd ?_ | refine zke ?_ | refine zkf ?_ | (refine RKg.split (fun h => ?_) (fun h => ?_) <;> (try rw [h]) <;> (replace h := zB h) <;> (try (exfalso; first | exact h | omega))) | refine zbt ?_ | apply V.regK | refine zvd ?_ | refine zve ?_ | (refine zvf (fun h => ?_) (fun h => ?_) <;> (replace h := zB h) <;> (try (exfalso; first | exact h | omega))) | (refine FnQ.retB (resct Tryz.results144) (by simp (disch := (first | omega | exact zX | fail)) only [cellR_op, len_cellX lo' hA', ix_cellX lo' hA', ld_cellX lo' hA', fa_cellX lo' hA', lf_wX lo' hA', lf_aX lo' hA', lf_rX lo' hA', sl_hiX lo' hA', sl_loX lo' hA', sl_lohiX lo' hA', len_cellX lo' hB', ix_cellX lo' hB', ld_cellX lo' hB', fa_cellX lo' hB', lf_wX lo' hB', lf_aX lo' hB', lf_rX lo' hB', sl_hiX lo' hB', sl_loX lo' hB', sl_lohiX lo' hB', go_sem]; rfl) ?_; (try dsimp only)))
    all_goals first
      | (refine .inr ⟨hok, ?_⟩
         rw [frzR_tup, List.map_cons, List.map_cons, List.map_nil, frzR1_v, frzR1_agg, List.map_cons, List.map_cons, List.map_nil, frzC_v, frzC_own hA' hlo])
      | (exfalso; unfold setOk at hok; omega)
      | (exfalso; apply hok; unfold setOk; refine ⟨?_, ?_, ?_, ?_⟩ <;> first | assumption | omega)
      | trace_state
end
end Go.Am
