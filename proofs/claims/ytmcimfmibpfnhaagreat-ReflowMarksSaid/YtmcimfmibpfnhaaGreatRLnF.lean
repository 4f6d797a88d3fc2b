
/- Rows alike, of any rows that lie there. -/
import Derived.Test.YtmcimfmibpfnhaaGreatRLnC
set_option linter.all false
set_option linter.deprecated false
namespace Go.Am
variable {oc : Orc} [OrcI oc]
open Go.Proofs
set_option maxRecDepth 8000
set_option maxHeartbeats 4000000
section
variable {ys : List (Nat × LRec)} {lo : Nat} {H : AHeap} {A B : AV} {es es' : List (List AV)} {l l' : List Rw}
end
end Go.Am
