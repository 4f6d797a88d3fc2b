
/- Lines: gone through, joined. -/
import Derived.Test.YtpaakagaiogknaaGreatKLinB
set_option linter.all false
set_option linter.deprecated false
namespace Go.Am
variable {oc : Orc} [OrcI oc]
open Go.Proofs
set_option maxRecDepth 8000
set_option maxHeartbeats 4000000
section
variable {ys : List (Nat × LRec)} {lo : Nat} {H : AHeap} {A : AV} {es : List (List AV)} {rows : List Rw}
theorem app_line : appInfo (ELo oc).P 22 = some (33, 24, 1) := by kernel_rfl
end
end Go.Am
