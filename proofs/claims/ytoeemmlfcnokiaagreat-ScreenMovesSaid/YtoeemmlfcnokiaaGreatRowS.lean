/- RowSpan: what is erased is blank. -/
import Derived.Test.YtoeemmlfcnokiaaGreatRowL
import Derived.Test.YtoeemmlfcnokiaaGreatAmF
set_option linter.all false
set_option linter.deprecated false
namespace Go.Am
open Go.Proofs
set_option maxRecDepth 8000
set_option maxHeartbeats 4000000
theorem eraL_len (l : List Ce) (a b : Nat) : (eraL l a b).length = l.length := by unfold eraL; split <;> simp [putL_len]
theorem era_idem {l : List Ce} {a b : Nat} (h : b ≤ l.length) : eraL (eraL l a b) a b = eraL l a b := by
  unfold eraL
  by_cases he : a = b
  · simp only [if_pos he]
  · simp only [if_neg he]
    by_cases hab : a < b
    · refine ce_ext (by rw [putL_len]) fun j hj => ?_
      rw [putL_len, putL_len] at hj
      have hk := putL_at l a (blanks (b - a))
      rw [blanks_len] at hk
      rw [putL_at _ _ _ _ (by rw [putL_len]; exact hj), blanks_len]
      have e1 := hk j hj
      have e2 := hk a (by omega)
      rw [if_pos (by omega), blanks_at _ _ (by omega)] at e2
      by_cases c1 : a ≤ j ∧ j < a + (b - a)
      · rw [if_pos c1] at e1 ⊢; exact e1.symm
      · rw [if_neg c1] at e1 ⊢
        rw [if_neg (by rw [e2]; simp)]
        by_cases c3 : j = a + (b - a) ∧ (l.getD j zeroC).w = 0
        · have : ((putL l a (blanks (b - a))).getD j zeroC).w ≠ 0 := by
            rw [e1]
            split
            · simp
            · first | (rw [if_pos c3]; simp) | simp
          rw [if_neg (fun z => this z.2)]
        · by_cases c4 : j = a + (b - a)
          · have : ((putL l a (blanks (b - a))).getD j zeroC).w ≠ 0 := by
              rw [e1]
              split
              · simp
              · first | (rw [if_neg c3]; exact fun z => c3 ⟨c4, z⟩) | exact fun z => c3 ⟨c4, z⟩
            rw [if_neg (fun z => this z.2)]
          · rw [if_neg (fun z => c4 z.1)]
    · have hz : b - a = 0 := by omega
      have hb0 : blanks (b - a) = [] := by rw [hz]; rfl
      have : ∀ l : List Ce, putL (putL l a []) a [] = putL l a [] := fun l => by
        refine ce_ext (by rw [putL_len]) fun j hj => ?_
        rw [putL_len, putL_len] at hj
        rw [putL_at _ _ _ _ (by rw [putL_len]; exact hj)]
        by_cases ha : a < l.length
        · simp only [putL_at _ _ _ _ hj, putL_at _ _ _ _ ha, List.length_nil, Nat.add_zero]
          grind
        · have hg : (putL l a []).getD a zeroC = zeroC := by simp [List.getD_eq_getElem?_getD, List.getElem?_eq_none (by rw [putL_len]; omega : (putL l a []).length ≤ a)]
          have hg2 : l.getD a zeroC = zeroC := by simp [List.getD_eq_getElem?_getD, List.getElem?_eq_none (by omega : l.length ≤ a)]
          simp only [putL_at _ _ _ _ hj, hg, hg2, List.length_nil, Nat.add_zero]
          grind
      rw [hb0]; exact this l
theorem eraG {l : List Ce} (hl : rowG l) {a b : Nat} (h : a ≤ b) (hb : b ≤ l.length) : rowG (eraL l a b) := by
  unfold eraL
  split
  · exact hl
  · exact put_rowG hl _ _ (by rw [blanks_len]; omega) (by rw [blanks_len]; omega) (blank_cells _)
section
variable {ys : List (Nat × LRec)} {lo : Nat} {H : AHeap} {A B : AV} {l m : List Ce} {wr wr' : Bool}
theorem begun_R : CallR EZ ys lo 14 [] H (.v (.bool true)) H ⟨0, 0, 0⟩ := by
  obtain ⟨H', h⟩ := isT_ok begun_run
  exact WC.pure' (E := EZ) rfl rfl ⟨_, _, _, h, rfl⟩ _ _ _
/-! What came in. -/
end
end Go.Am
