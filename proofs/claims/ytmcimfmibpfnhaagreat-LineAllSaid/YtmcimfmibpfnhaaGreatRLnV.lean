/- Parts of the proof: RLnU RLnV. -/
import Derived.Test.YtmcimfmibpfnhaaGreatRLnT
import Derived.Test.YtmcimfmibpfnhaaGreatRLnJ
import Derived.Test.YtmcimfmibpfnhaaGreatRLnR
import Derived.Test.YtmcimfmibpfnhaaGreatRLnF
set_option linter.all false
set_option linter.deprecated false

namespace Go.Am
variable {oc : Orc} [OrcI oc]
open Go.Proofs
set_option maxRecDepth 100000
set_option maxHeartbeats 8000000
theorem joinL_sz {es : List (List AV)} {rows : List Rw} (hr : RsP es rows) (h14 : rows.length ≤ 14) : (joinL rows).length ≤ 14 ∧ ∀ l ∈ joinL rows, l.length ≤ 4200 ∧ R32 l := by
  refine ⟨Nat.le_trans (joinG_le rows []) h14, fun l hl => ?_⟩
  have := joinG_bd rows (fun r hr2 => (hr.mem r hr2).1) [] (R32_mem.2 fun c hc => by cases hc) l hl
  rw [List.length_nil] at this
  exact ⟨by omega, this.2⟩
section
variable {A B : AV} {es : List (List AV)} {a : List Rw} {ws : List Int}
end
end Go.Am

namespace Go.Am
variable {oc : Orc} [OrcI oc]
open Go.Proofs
set_option maxRecDepth 100000
set_option maxHeartbeats 8000000
section
variable {E : List (List AV)} {M : AV}
end
section
variable {A M : AV} {es : List (List AV)} {a : List Rw} {ms : List (Int × Int)}
end
end Go.Am
