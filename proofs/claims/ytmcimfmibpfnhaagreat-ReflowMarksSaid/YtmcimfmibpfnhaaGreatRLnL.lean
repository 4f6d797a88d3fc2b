
/- LinePlaces: each cell of each line has its place. -/
import Derived.Test.YtmcimfmibpfnhaaGreatRLnS
import Derived.Test.YtmcimfmibpfnhaaGreatRLnA
import Derived.Test.YtmcimfmibpfnhaaGreatRLnF
set_option linter.all false
set_option linter.deprecated false
namespace Go.Am
variable {oc : Orc} [OrcI oc]
open Go.Proofs
set_option maxRecDepth 8000
set_option maxHeartbeats 8000000
theorem allL_mem {ls : List (List Ce)} {w : Int} (h32 : ∀ l ∈ ls, R32 l) : (∀ r ∈ allL ls w, r.1.length < 2 ^ 20) ∧ ∀ r ∈ allL ls w, R32 r.1 := by
  refine ⟨fun r hr => ?_, fun r hr => ?_⟩
  · obtain ⟨l, _, h2⟩ := List.mem_flatMap.1 hr
    exact layL_300 r h2
  · obtain ⟨l, h1, h2⟩ := List.mem_flatMap.1 hr
    exact layL_R32 w (h32 l h1) r h2
theorem LsP.mem {es : List (List AV)} {ls : List (List Ce)} (h : LsP es ls) : ∀ l ∈ ls, R32 l := fun l hl => by
  obtain ⟨j, hj, rfl⟩ := List.mem_iff_getElem.1 hl
  have := h.r32 j hj
  rwa [List.getD_eq_getElem?_getD, List.getElem?_eq_getElem hj] at this
theorem RsP.allL {ls : List (List Ce)} (w : Int) (h32 : ∀ l ∈ ls, R32 l) : RsP (Go.Am.rowsA (Go.Am.allL ls w)) (Go.Am.allL ls w) := RsP.rowsA (allL_mem h32).1 (allL_mem h32).2
section
variable {A : AV} {es : List (List AV)} {ls : List (List Ce)}
end
end Go.Am
