
/- LinePlaces: each cell of each line has its place. -/
import Derived.Test.YtmcimfmibpfnhaaGreatRLnS
import Derived.Test.YtmcimfmibpfnhaaGreatRLnA
import Derived.Test.YtmcimfmibpfnhaaGreatRLnF
set_option linter.all false
set_option linter.deprecated false
namespace Go.Am
variable {oc : Orc} [OrcI oc]
open Go.Proofs
set_option maxRecDepth 8000
set_option maxHeartbeats 8000000
theorem LsP.mem {es : List (List AV)} {ls : List (List Ce)} (h : LsP es ls) : ∀ l ∈ ls, R32 l := fun l hl => by
  obtain ⟨j, hj, rfl⟩ := List.mem_iff_getElem.1 hl
  have := h.r32 j hj
  rwa [List.getD_eq_getElem?_getD, List.getElem?_eq_getElem hj] at this
section
variable {A : AV} {es : List (List AV)} {ls : List (List Ce)}
end
end Go.Am
