
/- Cells as slices: copies, comparisons, what is used of a row. -/
import Derived.Test.YtmcimfmibpfnhaaGreatPRowM2
set_option linter.all false
set_option linter.deprecated false
namespace Go.Am
variable {oc : Orc} [OrcI oc]
open Go.Proofs
set_option maxRecDepth 8000
set_option maxHeartbeats 4000000
theorem flat_ces (l : List Ce) : FlatE (cesA l) := FlatE.map (fun c x hx => by simp at hx; rcases hx with rfl | rfl | rfl <;> rfl) l
theorem app_cell : appInfo (ELo oc).P 41 = some (52, 24, 3) := by kernel_rfl
theorem ces_nil {l : List Ce} : cesA l = [] ↔ l = [] := by cases l <;> simp

section
variable {ys : List (Nat × LRec)} {lo : Nat} {H : AHeap} {A B : AV} {l m : List Ce}
theorem Clone_run (hA : SlH H 3 A (cesA l)) (h0 : l ≠ []) (hl : l.length < 2 ^ 40) : CallO (ELo oc) ys lo 95 [A] H (.os H.next 0 0 l.length) (H.push ⟨52, 3, 0, cesA l, none⟩) := by
  refine WC.ownO (x := fun m => .os m 0 0 l.length) (bs := fun _ => [⟨52, 3, 0, cesA l, none⟩]) rfl fun lo' H' hh => ?_
  have hA' := hA.two (.inr ⟨[], .inr List.mem_cons_self⟩) hh
  have hlo := lo_two hh
  have h1 : cesA l ≠ [] := fun e => h0 (ces_nil.1 e)
  have happ := append_new (ELo oc) lo' (H := H') (t := 41) (s := .e0) (.inl rfl) app_cell hA' h1 (by rw [ces_len]; unfold roomMax; omega)
  have hne := fun xo yo => nilS_no (ELo oc) lo' hA' (nilS_ne' hA' h1) 41 xo yo (by kernel_rfl)
  rw [ces_len] at happ
  refine zvin Tryz.func95 Tryz.ntmps95 ?_
  repeat' (first | refine zka ?_ | refine zkb ?_ | (apply RKp.op; ((try simp (disch := (first | omega | exact zX | fail)) only [hne, happ, go_sem]); exact zL); rfl) | refine zkc ?_ | refine zz ?_ | refine zkd ?_ | refine zke ?_ | refine zkf ?_ | (refine RKg.split (fun h => ?_) (fun h => ?_) <;> (try rw [h]) <;> (replace h := zB h) <;> (try (exfalso; first | exact h | omega))) | refine zbt ?_ | apply V.regK | refine zvd ?_ | refine zve ?_ | (refine zvf (fun h => ?_) (fun h => ?_) <;> (replace h := zB h) <;> (try (exfalso; first | exact h | omega))) | (refine zfc Tryz.results95 ?_; (try dsimp only)))
  exact hands_os (b := ⟨52, 3, 0, cesA l, none⟩) (by omega) (by rw [get_push, if_pos rfl]) rfl (flat_ces l)
theorem Equal_run (hA : SlH H 3 A (cesA l)) (hB : SlH H 3 B (cesA m)) (hl : l.length < 2 ^ 40) (hm : m.length < 2 ^ 40) : CallRo (ELo oc) ys lo 80 [A, B] H (.v (.bool (decide (l = m)))) := by
  refine WC.pureR rfl fun lo' H' hh => ?_
  have hA' := hA.two (.inr ⟨[], .inr (by simp)⟩) hh
  have hB' := hB.two (.inr ⟨[], .inr (by simp)⟩) hh
  refine zvin Tryz.func80 Tryz.ntmps80 ?_
  repeat' (first | refine zka ?_ | refine zkb ?_ | (apply RKp.op; ((try simp (disch := (first | omega | exact zX | fail)) only [len_cell _ hA', len_cell _ hB', go_sem]); exact zL); rfl) | refine zkc ?_ | refine zz ?_ | refine zkd ?_ | refine zke ?_ | refine zkf ?_ | (refine RKg.split (fun h => ?_) (fun h => ?_) <;> (try rw [h]) <;> (replace h := zB h) <;> (try (exfalso; first | exact h | omega))) | refine zbt ?_ | apply V.regK | refine zva ?_ | refine zvb ?_ | refine zvc ?_ | refine zvd ?_ | refine zve ?_ | (refine zvf (fun h => ?_) (fun h => ?_) <;> (replace h := zB h) <;> (try (exfalso; first | exact h | omega))) | (refine zfc Tryz.results80 ?_; (try dsimp only)))
  · rw [frzR_v]; congr 2
    rw [eq_comm, decide_eq_false_iff_not]
    rintro rfl; exact h rfl
  · have hlm : l.length = m.length := by omega
    apply V.lpF [13, 4, 5, 14, 15, 16, 17, 18, 19, 20, 21, 22, 23, 24, 25] (fun k xs => ∃ (i : Nat) (g : _), xs = .v (.int .i64 i) :: g ∧ k = l.length - i ∧ i ≤ l.length ∧ ∀ j, j < i → l.getD j zeroC = m.getD j zeroC) l.length
    focus (intro xs; simp only [putMany, set2, Nat.reduceAdd, Nat.reduceDiv, Nat.reduceMod, nth_zero, nth_succ, List.set_cons_zero, List.set_cons_succ]; rfl)
    focus (first | rfl | simp only [readMany, nth_zero, nth_succ, Nat.reduceDiv, Nat.reduceMod])
    · exact ⟨0, _, rfl, rfl, Nat.zero_le _, fun j h => absurd h (Nat.not_lt_zero _)⟩
    · rintro k xs ⟨i, g, rfl, rfl, hi, hst⟩
      repeat' (first | refine zka ?_ | refine zkb ?_ | (apply RKp.op; ((try simp (disch := (first | omega | exact zX | fail)) only [ix_cell _ hA', ix_cell _ hB', ld_cell _ hA', ld_cell _ hB', eqC0, eqC1, go_sem]); exact zL); rfl) | refine zkc ?_ | refine zz ?_ | refine zkd ?_ | refine zke ?_ | refine zkf ?_ | (refine RKg.split (fun h => ?_) (fun h => ?_) <;> (try rw [h]) <;> (replace h := zB h) <;> (try (exfalso; first | exact h | omega))) | refine zbt ?_ | apply V.regK | refine zva ?_ | refine zvb ?_ | refine zvc ?_ | refine zvd ?_ | refine zve ?_ | (refine zvf (fun h => ?_) (fun h => ?_) <;> (replace h := zB h) <;> (try (exfalso; first | exact h | omega))) | (refine zfc Tryz.results80 ?_; (try dsimp only)))
      · rw [frzR_v]; congr 2
        rw [eq_comm, decide_eq_false_iff_not]
        rintro rfl; simp at h
      · refine LoopF.again (l.length - (i + 1)) (by rfl) (by omega) ⟨i + 1, _, rfl, rfl, by omega, fun j hj => ?_⟩
        rcases Nat.lt_succ_iff_lt_or_eq.1 hj with hj | rfl
        · exact hst j hj
        · obtain ⟨h1, h2, h3⟩ := h
          exact Ce.eqv.2 ⟨h1, h2, h3⟩
      · rw [frzR_v]; congr 2
        rw [eq_comm, decide_eq_true_eq]
        refine List.ext_getElem hlm fun j h1 h2 => ?_
        have := hst j (by omega)
        simpa [List.getD_eq_getElem?_getD, List.getElem?_eq_getElem h1, List.getElem?_eq_getElem h2] using this
end
end Go.Am
