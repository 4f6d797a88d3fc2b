/- Parts of the proof: RLnE RLnR. -/
import Derived.Test.YtmcimfmibpfnhaaGreatRLnD
import Derived.Test.YtmcimfmibpfnhaaGreatRLinW
import Derived.Test.YtmcimfmibpfnhaaGreatRBeg4
import Derived.Test.YtmcimfmibpfnhaaGreatRLnT
import Derived.Test.YtmcimfmibpfnhaaGreatRLnJ
set_option linter.all false
set_option linter.deprecated false

namespace Go.Am
variable {oc : Orc} [OrcI oc]
open Go.Proofs
set_option maxRecDepth 100000
set_option maxHeartbeats 4000000
theorem wd_rowsE {d : Nat} {es : List (List AV)} (h : ∀ c ∈ es, Wd Tryz.prog (d + 4) 48 c) : ∃ rows, RsB es rows := by
  induction es with
  | nil => exact ⟨[], rfl, fun j h => absurd h (Nat.not_lt_zero _)⟩
  | cons c r ih =>
    obtain ⟨A, l, wr, rfl, hA, hl, hr⟩ := wd_row (h c List.mem_cons_self)
    obtain ⟨ls, h1, h2⟩ := ih fun c hc => h c (List.mem_cons_of_mem _ hc)
    refine ⟨(l, wr) :: ls, by simp [h1], fun j hj => ?_⟩
    cases j with
    | zero => exact ⟨rfl, hA, hl, hr⟩
    | succ j => exact h2 j (by simpa using hj)
theorem wd_rowsS {d : Nat} {u : List AV} (h : Wd Tryz.prog (d + 5) 22 u) : ∃ (L : AV) (es : List (List AV)) (rows : List Rw), u = [L] ∧ Sl 2 L es ∧ es.length < 2 ^ 63 ∧ RsB es rows := by
  unfold Wd at h
  rw [Tryz.underlying22] at h
  obtain ⟨x, es, rfl, hs, hlen, he⟩ := h
  have hc3 : Tryz.prog.cellsOf 48 = 2 := by kernel_rfl
  rw [hc3] at hs
  obtain ⟨ls, hr⟩ := wd_rowsE he
  exact ⟨x, es, ls, rfl, hs, by unfold maxLen at hlen; omega, hr⟩
end Go.Am

namespace Go.Am
variable {oc : Orc} [OrcI oc]
open Go.Proofs
set_option maxRecDepth 100000
set_option maxHeartbeats 8000000
section
variable {A B : AV} {es fs : List (List AV)} {a b : List Rw}
end
end Go.Am
