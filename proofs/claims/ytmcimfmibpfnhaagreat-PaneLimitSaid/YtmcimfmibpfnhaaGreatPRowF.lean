
/- Cells and rows: what is compared, copied, told. -/
import Derived.Test.YtmcimfmibpfnhaaGreatPRowE
import Derived.Test.YtmcimfmibpfnhaaGreatPRowP
set_option linter.all false
set_option linter.deprecated false
namespace Go.Am
variable {oc : Orc} [OrcI oc]
open Go.Proofs
set_option maxRecDepth 8000
set_option maxHeartbeats 4000000

/-- A row's value. -/
abbrev rowA (A : AV) (wr : Bool) : AV := .agg [A, .v (.bool wr)]
def ofC (r a : Int) : List Ce := if widthI r = 0 ∨ a < 0 ∨ 255 < a then [] else if widthI r = 2 then [⟨r, 2, a⟩, ⟨0, 0, a⟩] else [⟨r, 1, a⟩]
theorem ofA_Sl (r a : Int) : Sl 3 (ofA r a) (cesA (ofC r a)) := by
  by_cases h : widthI r = 0 ∨ a < 0 ∨ 255 < a
  · rw [ofA_nil h, ofC, if_pos h]; exact .inr ⟨rfl, .inr rfl⟩
  · by_cases h2 : widthI r = 2
    · rw [ofA_2 h h2, ofC, if_neg h, if_pos h2]; exact .inl rfl
    · rw [ofA_1 h h2, ofC, if_neg h, if_neg h2]; exact .inl rfl

/-- A sign's cells, or a pad. -/
def signI (new : List Ce) : Prop := (new.length = 1 ∧ (new.getD 0 zeroC).w = 1 ∧ mayC (new.getD 0 zeroC).r (new.getD 0 zeroC).w (new.getD 0 zeroC).a) ∨ (new.length = 2 ∧ (new.getD 0 zeroC).w = 2 ∧ mayC (new.getD 0 zeroC).r (new.getD 0 zeroC).w (new.getD 0 zeroC).a ∧ new.getD 1 zeroC = ⟨0, 0, (new.getD 0 zeroC).a⟩)
instance (new : List Ce) : Decidable (signI new) := inferInstanceAs (Decidable (_ ∨ _))
theorem signI_G {new : List Ce} (h : signI new) : signG new := by
  rcases h with ⟨h1, h2, h3⟩ | ⟨h1, h2, h3, h4⟩
  · match new, h1 with
    | [c], _ => exact .inl ⟨c, rfl, h2, h3⟩
  · match new, h1 with
    | [c, d], _ =>
      have : d = ⟨0, 0, c.a⟩ := h4
      subst this
      exact .inr ⟨c, rfl, h2, h3⟩
theorem signI_of (c : Ce) (t : List Ce) : (c :: t = ofC c.r c.a ∨ (t = [] ∧ c = padC)) ↔ signI (c :: t) := by
  have hw := widthI_range c.r
  obtain ⟨r, w, a⟩ := c
  simp only [ofC, signI, List.getD_cons_zero, List.length_cons, mayC]
  simp only at hw
  constructor
  · rintro (h | ⟨rfl, h⟩)
    · split at h
      · cases h
      · split at h
        · simp only [List.cons.injEq, Ce.mk.injEq] at h
          obtain ⟨⟨_, rfl, _⟩, rfl⟩ := h
          refine .inr ⟨rfl, rfl, ⟨by omega, .inr (.inr ⟨.inr rfl, by omega⟩)⟩, rfl⟩
        · simp only [List.cons.injEq, Ce.mk.injEq] at h
          obtain ⟨⟨_, rfl, _⟩, rfl⟩ := h
          refine .inl ⟨rfl, rfl, ⟨by omega, .inr (.inr ⟨.inl rfl, by omega⟩)⟩⟩
    · cases h
      exact .inl ⟨rfl, rfl, by decide, .inl ⟨rfl, rfl, rfl⟩⟩
  · rintro (⟨h1, h2, h3, h4⟩ | ⟨h1, h2, ⟨h3, h4⟩, h5⟩)
    · have ht : t = [] := List.eq_nil_of_length_eq_zero (by omega)
      subst ht h2
      rcases h4 with ⟨rfl, _, rfl⟩ | ⟨h, _⟩ | ⟨_, h⟩
      · exact .inr ⟨rfl, rfl⟩
      · cases h
      · left; rw [if_neg (by omega), if_neg (by omega)]
    · subst h2
      rw [if_neg (by omega), if_pos (by omega)]
      match t, h1 with
      | [d], _ =>
        left
        have : d = ⟨0, 0, a⟩ := h5
        rw [this]

/-- Cells written over others, one by one. -/
def setN (l : List Ce) (col : Nat) (new : List Ce) : Nat → List Ce
  | 0 => l
  | i + 1 => (setN l col new i).set (col + i) (new.getD i zeroC)
theorem setN_len (l : List Ce) (col : Nat) (new : List Ce) (i : Nat) : (setN l col new i).length = l.length := by
  induction i with
  | zero => rfl
  | succ i ih => simp [setN, ih]
theorem setN_at (l : List Ce) (col : Nat) (new : List Ce) (i j : Nat) (hj : j < l.length) : (setN l col new i).getD j zeroC = if col ≤ j ∧ j < col + i then new.getD (j - col) zeroC else l.getD j zeroC := by
  induction i with
  | zero => rw [if_neg (by omega)]; rfl
  | succ i ih =>
    simp only [setN]
    rw [ce_set, setN_len, ih]
    by_cases h : col + i = j
    · rw [if_pos ⟨h, hj⟩, if_pos (by omega), show j - col = i by omega]
    · rw [if_neg (fun e => h e.1)]
      by_cases h2 : col ≤ j ∧ j < col + i
      · rw [if_pos h2, if_pos (by omega)]
      · rw [if_neg h2, if_neg (by omega)]
/-- A block of cells. -/
abbrev cblk (e : Nat) (l : List Ce) : Blk := ⟨52, 3, e, cesA l, none⟩
abbrev rblk (A : AV) (wr : Bool) : Blk := ⟨48, 2, 0, [[A, .v (.bool wr)]], none⟩
section
variable {ys : List (Nat × LRec)} {lo : Nat} {H : AHeap} {A B : AV} {l m : List Ce} {wr wr' : Bool}
theorem EqCells_run (hA : SlH H 3 A (cesA l)) (hB : SlH H 3 B (cesA m)) (hl : l.length < 2 ^ 40) (hm : m.length < 2 ^ 40) : CallRo (ELo oc) ys lo 36 [A, B] H (.v (.bool (decide (l = m)))) := by
  refine WC.pureR rfl fun lo' H' hh => ?_
  have hA' := hA.two (.inr ⟨[], .inr (by simp)⟩) hh
  have hB' := hB.two (.inr ⟨[], .inr (by simp)⟩) hh
  refine zvin Tryz.func36 Tryz.ntmps36 ?_
  repeat' (first | refine zka ?_ | refine zkb ?_ | (apply RKp.op; ((try simp (disch := (first | omega | exact zX | fail)) only [len_cell _ hA', len_cell _ hB', go_sem]); exact zL); rfl) | refine zkc ?_ | refine zz ?_ | refine zkd ?_ | refine zke ?_ | refine zkf ?_ | (refine RKg.split (fun h => ?_) (fun h => ?_) <;> (try rw [h]) <;> (replace h := zB h) <;> (try (exfalso; first | exact h | omega))) | refine zbt ?_ | apply V.regK | refine zva ?_ | refine zvb ?_ | refine zvc ?_ | refine zvd ?_ | refine zve ?_ | (refine zvf (fun h => ?_) (fun h => ?_) <;> (replace h := zB h) <;> (try (exfalso; first | exact h | omega))) | (refine zfc Tryz.results36 ?_; (try dsimp only)))
  · rw [frzR_v]; congr 2
    rw [eq_comm, decide_eq_false_iff_not]
    rintro rfl; exact h rfl
  · have hlm : l.length = m.length := by omega
    apply V.lpF [5, 4, 11, 12, 13, 14, 15, 16, 17, 18, 19, 20, 21, 22, 23, 24, 25] (fun k xs => ∃ (i : Nat) (g : _), xs = .v (.int .i64 i) :: g ∧ k = l.length - i ∧ i ≤ l.length ∧ ∀ j, j < i → l.getD j zeroC = m.getD j zeroC) l.length
    focus (intro xs; simp only [putMany, set2, Nat.reduceAdd, Nat.reduceDiv, Nat.reduceMod, nth_zero, nth_succ, List.set_cons_zero, List.set_cons_succ]; rfl)
    focus (first | rfl | simp only [readMany, nth_zero, nth_succ, Nat.reduceDiv, Nat.reduceMod])
    · exact ⟨0, _, rfl, rfl, Nat.zero_le _, fun j h => absurd h (Nat.not_lt_zero _)⟩
    · rintro k xs ⟨i, g, rfl, rfl, hi, hst⟩
      repeat' (first | refine zka ?_ | refine zkb ?_ | (apply RKp.op; ((try simp (disch := (first | omega | exact zX | fail)) only [len_cell _ hA', ix_cell _ hA', ix_cell _ hB', ld_cell _ hA', ld_cell _ hB', eqC1, Int.toNat_natCast, go_sem]); exact zL); rfl) | refine zkc ?_ | refine zz ?_ | refine zkd ?_ | refine zke ?_ | refine zkf ?_ | (refine RKg.split (fun h => ?_) (fun h => ?_) <;> (try rw [h]) <;> (replace h := zB h) <;> (try (exfalso; first | exact h | omega))) | refine zbt ?_ | apply V.regK | refine zva ?_ | refine zvb ?_ | refine zvc ?_ | refine zvd ?_ | refine zve ?_ | (refine zvf (fun h => ?_) (fun h => ?_) <;> (replace h := zB h) <;> (try (exfalso; first | exact h | omega))) | (refine zfc Tryz.results36 ?_; (try dsimp only)))
      · rw [frzR_v]; congr 2
        rw [eq_comm, decide_eq_false_iff_not]
        rintro rfl; simp at h
      · refine LoopF.again (l.length - (i + 1)) (by rfl) (by omega) ⟨i + 1, _, rfl, rfl, by omega, fun j hj => ?_⟩
        rcases Nat.lt_succ_iff_lt_or_eq.1 hj with hj | rfl
        · exact hst j hj
        · obtain ⟨h1, h2, h3⟩ := h
          exact Ce.eqv.2 ⟨h1, h2, h3⟩
      · rw [frzR_v]; congr 2
        rw [eq_comm, decide_eq_true_eq]
        exact ce_ext hlm fun j h1 => hst j (by omega)
theorem EqRow_run (hA : SlH H 3 A (cesA l)) (hB : SlH H 3 B (cesA m)) (hl : l.length < 2 ^ 40) (hm : m.length < 2 ^ 40) : CallRo (ELo oc) ys lo 69 [rowA A wr, rowA B wr'] H (.v (.bool (decide (l = m ∧ wr = wr')))) := by
  refine WC.pureR rfl fun lo' H' hh => ?_
  have hA' := (hA.two (.inr ⟨[A, .v (.bool wr)], .inl (by simp)⟩) hh)
  have hB' := (hB.two (.inr ⟨[B, .v (.bool wr')], .inl (by simp)⟩) hh)
  have hA1 := (hA'.push (rblk A wr)).push (rblk B wr')
  have hB1 := (hB'.push (rblk A wr)).push (rblk B wr')
  refine zvin Tryz.func69 Tryz.ntmps69 ?_
  repeat' (first | refine zka ?_ | refine zkb ?_ | (apply RKp.op; ((try simp (disch := (first | omega | exact zX | fail)) only [go_sem]); exact zL); rfl) | (apply RKp.callR; (apply EqCells_run <;> (exact zD)); rfl; intro tr htr) | refine zkc ?_ | refine zz ?_ | refine zkd ?_ | refine zke ?_ | refine zkf ?_ | (refine RKg.split (fun h => ?_) (fun h => ?_) <;> (try rw [h]) <;> (replace h := zB h) <;> (try (exfalso; first | exact h | omega))) | refine zbt ?_ | apply V.regK | refine zvd ?_ | refine zve ?_ | (refine zvf (fun h => ?_) (fun h => ?_) <;> (replace h := zB h) <;> (try (exfalso; first | exact h | omega))) | (refine zfc Tryz.results69 ?_; (try dsimp only)))
  all_goals (rw [frzR_v]; congr 2; rw [Bool.eq_iff_iff]; simp_all)
end
end Go.Am
