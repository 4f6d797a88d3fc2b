
/- Cells as slices: copies, comparisons, what is used of a row. -/
import Derived.Test.YtpaakagaiogknaaGreatKRowM2
set_option linter.all false
set_option linter.deprecated false
namespace Go.Am
variable {oc : Orc} [OrcI oc]
open Go.Proofs
set_option maxRecDepth 8000
set_option maxHeartbeats 4000000
section
variable {ys : List (Nat × LRec)} {lo : Nat} {H : AHeap} {A B : AV} {l m : List Ce}
end
end Go.Am
