/- Parts of the proof: RLnK RLnG. -/
import Derived.Test.YtmcimfmibpfnhaaGreatRLnJ
import Derived.Test.YtmcimfmibpfnhaaGreatRLinG
import Derived.Test.YtmcimfmibpfnhaaGreatRLinB
import Derived.Test.YtmcimfmibpfnhaaGreatRLnP
set_option linter.all false
set_option linter.deprecated false

namespace Go.Am
variable {oc : Orc} [OrcI oc]
open Go.Proofs
set_option maxRecDepth 8000
set_option maxHeartbeats 8000000

section
variable {H : AHeap} {base n e L : Nat} {esr : List (List AV)} {rows : List Rw}
end
section
variable {ys : List (Nat × LRec)} {lo : Nat} {H : AHeap} {A : AV} {l : List Ce} {es : List (List AV)} {ls : List (List Ce)}
end
end Go.Am

namespace Go.Am
variable {oc : Orc} [OrcI oc]
open Go.Proofs
set_option maxRecDepth 8000
set_option maxHeartbeats 8000000
section
variable {ys : List (Nat × LRec)} {lo : Nat} {H : AHeap} {A : AV} {es : List (List AV)} {ls : List (List Ce)}
end
end Go.Am
