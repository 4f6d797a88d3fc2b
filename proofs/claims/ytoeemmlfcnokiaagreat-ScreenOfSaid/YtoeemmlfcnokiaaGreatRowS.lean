/- RowSpan: what is erased is blank. -/
import Derived.Test.YtoeemmlfcnokiaaGreatRowL
import Derived.Test.YtoeemmlfcnokiaaGreatAmF
set_option linter.all false
set_option linter.deprecated false
namespace Go.Am
open Go.Proofs
set_option maxRecDepth 8000
set_option maxHeartbeats 4000000
theorem eraL_len (l : List Ce) (a b : Nat) : (eraL l a b).length = l.length := by unfold eraL; split <;> simp [putL_len]
theorem era_idem {l : List Ce} {a b : Nat} (h : b ≤ l.length) : eraL (eraL l a b) a b = eraL l a b := by
  unfold eraL
  by_cases he : a = b
  · simp only [if_pos he]
  · simp only [if_neg he]
    by_cases hab : a < b
    · refine ce_ext (by rw [putL_len]) fun j hj => ?_
      rw [putL_len, putL_len] at hj
      have hk := putL_at l a (blanks (b - a))
      rw [blanks_len] at hk
      rw [putL_at _ _ _ _ (by rw [putL_len]; exact hj), blanks_len]
      have e1 := hk j hj
      have e2 := hk a (by omega)
      rw [if_pos (by omega), blanks_at _ _ (by omega)] at e2
      by_cases c1 : a ≤ j ∧ j < a + (b - a)
      · rw [if_pos c1] at e1 ⊢; exact e1.symm
      · rw [if_neg c1] at e1 ⊢
        rw [if_neg (by rw [e2]; simp)]
        by_cases c3 : j = a + (b - a) ∧ (l.getD j zeroC).w = 0
        · have : ((putL l a (blanks (b - a))).getD j zeroC).w ≠ 0 := by
            rw [e1]
            split
            · simp
            · first | (rw [if_pos c3]; simp) | simp
          rw [if_neg (fun z => this z.2)]
        · by_cases c4 : j = a + (b - a)
          · have : ((putL l a (blanks (b - a))).getD j zeroC).w ≠ 0 := by
              rw [e1]
              split
              · simp
              · first | (rw [if_neg c3]; exact fun z => c3 ⟨c4, z⟩) | exact fun z => c3 ⟨c4, z⟩
            rw [if_neg (fun z => this z.2)]
          · rw [if_neg (fun z => c4 z.1)]
    · have hz : b - a = 0 := by omega
      have hb0 : blanks (b - a) = [] := by rw [hz]; rfl
      have : ∀ l : List Ce, putL (putL l a []) a [] = putL l a [] := fun l => by
        refine ce_ext (by rw [putL_len]) fun j hj => ?_
        rw [putL_len, putL_len] at hj
        rw [putL_at _ _ _ _ (by rw [putL_len]; exact hj)]
        by_cases ha : a < l.length
        · simp only [putL_at _ _ _ _ hj, putL_at _ _ _ _ ha, List.length_nil, Nat.add_zero]
          grind
        · have hg : (putL l a []).getD a zeroC = zeroC := by simp [List.getD_eq_getElem?_getD, List.getElem?_eq_none (by rw [putL_len]; omega : (putL l a []).length ≤ a)]
          have hg2 : l.getD a zeroC = zeroC := by simp [List.getD_eq_getElem?_getD, List.getElem?_eq_none (by omega : l.length ≤ a)]
          simp only [putL_at _ _ _ _ hj, hg, hg2, List.length_nil, Nat.add_zero]
          grind
      rw [hb0]; exact this l
theorem eraG {l : List Ce} (hl : rowG l) {a b : Nat} (h : a ≤ b) (hb : b ≤ l.length) : rowG (eraL l a b) := by
  unfold eraL
  split
  · exact hl
  · exact put_rowG hl _ _ (by rw [blanks_len]; omega) (by rw [blanks_len]; omega) (blank_cells _)
section
variable {ys : List (Nat × LRec)} {lo : Nat} {H : AHeap} {A B : AV} {l m : List Ce} {wr wr' : Bool}
theorem begun_R : CallR EZ ys lo 14 [] H (.v (.bool true)) H ⟨0, 0, 0⟩ := by
  obtain ⟨H', h⟩ := isT_ok begun_run
  exact WC.pure' (E := EZ) rfl rfl ⟨_, _, _, h, rfl⟩ _ _ _
/-! What came in. -/
theorem wd_cell {d : Nat} {c : List AV} (h : Wd Tryz.prog (d + 2) 61 c) : ∃ x : Ce, c = ceA x ∧ (-2147483648 ≤ x.r ∧ x.r ≤ 2147483647) ∧ (-9223372036854775808 ≤ x.w ∧ x.w ≤ 9223372036854775807) ∧ (-9223372036854775808 ≤ x.a ∧ x.a ≤ 9223372036854775807) := by
  unfold Wd at h
  rw [Tryz.underlying61] at h
  obtain ⟨parts, rfl, hl, hp⟩ := h
  match parts, hl with
  | [p0, p1, p2], _ =>
    have h0 := hp 0 _ p0 rfl rfl
    have h1 := hp 1 _ p1 rfl rfl
    have h2 := hp 2 _ p2 rfl rfl
    simp only [Wd, Tryz.underlying21, Tryz.underlying3] at h0 h1 h2
    obtain ⟨r, rfl, hr⟩ := h0
    obtain ⟨w, rfl, hw⟩ := h1
    obtain ⟨a, rfl, ha⟩ := h2
    exact ⟨⟨r, w, a⟩, rfl, i32_wf hr, i64_wf hw, i64_wf ha⟩
theorem wd_cells {d : Nat} {es : List (List AV)} (h : ∀ c ∈ es, Wd Tryz.prog (d + 2) 61 c) : ∃ l : List Ce, es = cesA l ∧ R32 l := by
  induction es with
  | nil => exact ⟨[], rfl, fun i => by simp⟩
  | cons c r ih =>
    obtain ⟨x, rfl, hx, _⟩ := wd_cell (h c List.mem_cons_self)
    obtain ⟨l, rfl, hl⟩ := ih fun c hc => h c (List.mem_cons_of_mem _ hc)
    refine ⟨x :: l, rfl, fun i => ?_⟩
    cases i with
    | zero => exact hx
    | succ i => exact hl i
theorem wd_row {d : Nat} {u : List AV} (h : Wd Tryz.prog (d + 4) 47 u) : ∃ (A : AV) (l : List Ce) (wr : Bool), u = [A, .v (.bool wr)] ∧ Sl 3 A (cesA l) ∧ l.length < 2 ^ 63 ∧ R32 l := by
  unfold Wd at h
  rw [Tryz.underlying47] at h
  obtain ⟨parts, rfl, hl, hp⟩ := h
  match parts, hl with
  | [p0, p1], _ =>
    have h0 : Wd Tryz.prog (d + 3) 45 p0 := hp 0 _ p0 rfl rfl
    have h1 : Wd Tryz.prog (d + 3) 4 p1 := hp 1 _ p1 rfl rfl
    unfold Wd at h0 h1
    rw [Tryz.underlying45] at h0
    rw [Tryz.underlying4] at h1
    obtain ⟨x, es, rfl, hs, hlen, he⟩ := h0
    obtain ⟨b, rfl⟩ := h1
    obtain ⟨l, rfl, hr⟩ := wd_cells he
    have hc3 : Tryz.prog.cellsOf 61 = 3 := by kernel_rfl
    rw [hc3] at hs
    refine ⟨x, l, b, rfl, hs, ?_, hr⟩
    rw [ces_len] at hlen
    unfold maxLen at hlen; omega
end
end Go.Am
