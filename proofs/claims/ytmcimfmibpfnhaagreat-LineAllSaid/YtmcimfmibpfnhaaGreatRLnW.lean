
/- What came in: lines; LineEnds, joined. -/
import Derived.Test.YtmcimfmibpfnhaaGreatRLnA
import Derived.Test.YtmcimfmibpfnhaaGreatRLinW
import Derived.Test.YtmcimfmibpfnhaaGreatRBeg4
set_option linter.all false
set_option linter.deprecated false
namespace Go.Am
variable {oc : Orc} [OrcI oc]
open Go.Proofs
set_option maxRecDepth 100000
set_option maxHeartbeats 4000000
theorem wd_linesE {d : Nat} {es : List (List AV)} (h : ∀ c ∈ es, Wd Tryz.prog (d + 3) 41 c) : ∃ ls, LsB es ls := by
  induction es with
  | nil => exact ⟨[], rfl, fun j h => absurd h (Nat.not_lt_zero _)⟩
  | cons c r ih =>
    obtain ⟨A, l, rfl, hA, hl, hr⟩ := wd_cellsS (h c List.mem_cons_self)
    obtain ⟨ls, h1, h2⟩ := ih fun c hc => h c (List.mem_cons_of_mem _ hc)
    refine ⟨l :: ls, by simp [h1], fun j hj => ?_⟩
    cases j with
    | zero => exact ⟨rfl, hA, hl, hr⟩
    | succ j => exact h2 j (by simpa using hj)
theorem wd_linesS {d : Nat} {u : List AV} (h : Wd Tryz.prog (d + 4) 23 u) : ∃ (L : AV) (es : List (List AV)) (ls : List (List Ce)), u = [L] ∧ Sl 1 L es ∧ es.length < 2 ^ 63 ∧ LsB es ls := by
  unfold Wd at h
  rw [Tryz.underlying23] at h
  obtain ⟨x, es, rfl, hs, hlen, he⟩ := h
  have hc3 : Tryz.prog.cellsOf 41 = 1 := by kernel_rfl
  rw [hc3] at hs
  obtain ⟨ls, hr⟩ := wd_linesE he
  exact ⟨x, es, ls, rfl, hs, by unfold maxLen at hlen; omega, hr⟩
end Go.Am
