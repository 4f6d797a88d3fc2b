
/- What came in: cells, rows, lines, positions. -/
import Derived.Test.YtpaakagaiogknaaGreatKLinU
import Derived.Test.YtpaakagaiogknaaGreatAmF
set_option linter.all false
set_option linter.deprecated false
namespace Go.Am
variable {oc : Orc} [OrcI oc]
open Go.Proofs
set_option maxRecDepth 8000
set_option maxHeartbeats 4000000
theorem wd_cell {d : Nat} {c : List AV} (h : Wd Tryz.prog (d + 2) 26 c) : ∃ x : Ce, c = ceA x ∧ (-2147483648 ≤ x.r ∧ x.r ≤ 2147483647) ∧ (-9223372036854775808 ≤ x.w ∧ x.w ≤ 9223372036854775807) ∧ (-9223372036854775808 ≤ x.a ∧ x.a ≤ 9223372036854775807) := by
  unfold Wd at h
  rw [Tryz.underlying26] at h
  obtain ⟨parts, rfl, hl, hp⟩ := h
  match parts, hl with
  | [p0, p1, p2], _ =>
    have h0 := hp 0 _ p0 rfl rfl
    have h1 := hp 1 _ p1 rfl rfl
    have h2 := hp 2 _ p2 rfl rfl
    simp only [Wd, Tryz.underlying21, Tryz.underlying3] at h0 h1 h2
    obtain ⟨r, rfl, hr⟩ := h0
    obtain ⟨w, rfl, hw⟩ := h1
    obtain ⟨a, rfl, ha⟩ := h2
    exact ⟨⟨r, w, a⟩, rfl, i32_wf hr, i64_wf hw, i64_wf ha⟩
theorem wd_cells {d : Nat} {es : List (List AV)} (h : ∀ c ∈ es, Wd Tryz.prog (d + 2) 26 c) : ∃ l : List Ce, es = cesA l ∧ R32 l := by
  induction es with
  | nil => exact ⟨[], rfl, fun i => by simp⟩
  | cons c r ih =>
    obtain ⟨x, rfl, hx, _⟩ := wd_cell (h c List.mem_cons_self)
    obtain ⟨l, rfl, hl⟩ := ih fun c hc => h c (List.mem_cons_of_mem _ hc)
    refine ⟨x :: l, rfl, fun i => ?_⟩
    cases i with
    | zero => exact hx
    | succ i => exact hl i
theorem wd_cellsS {d : Nat} {u : List AV} (h : Wd Tryz.prog (d + 3) 33 u) : ∃ (A : AV) (l : List Ce), u = [A] ∧ Sl 3 A (cesA l) ∧ l.length < 2 ^ 63 ∧ R32 l := by
  unfold Wd at h
  rw [Tryz.underlying33] at h
  obtain ⟨x, es, rfl, hs, hlen, he⟩ := h
  obtain ⟨l, rfl, hr⟩ := wd_cells he
  have hc3 : Tryz.prog.cellsOf 26 = 3 := by kernel_rfl
  rw [hc3] at hs
  refine ⟨x, l, rfl, hs, ?_, hr⟩
  rw [ces_len] at hlen
  unfold maxLen at hlen; omega
end Go.Am
