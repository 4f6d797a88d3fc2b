/- Parts of the proof: RLnI RLnX. -/
import Derived.Test.YtmcimfmibpfnhaaGreatRLnH
import Derived.Test.YtmcimfmibpfnhaaGreatRLnG
import Derived.Test.YtmcimfmibpfnhaaGreatRLnV
import Derived.Test.YtmcimfmibpfnhaaGreatRLnR
set_option linter.all false
set_option linter.deprecated false

namespace Go.Am
variable {oc : Orc} [OrcI oc]
open Go.Proofs
set_option maxRecDepth 100000
set_option maxHeartbeats 8000000
section
variable {ys : List (Nat × LRec)} {lo : Nat} {H : AHeap} {A M : AV} {es : List (List AV)} {rows : List Rw} {ms : List (Int × Int)}
end
end Go.Am

namespace Go.Am
variable {oc : Orc} [OrcI oc]
open Go.Proofs
set_option maxRecDepth 100000
set_option maxHeartbeats 8000000
section
variable {A M : AV} {es : List (List AV)} {a : List Rw} {ms : List (Int × Int)}
end
end Go.Am
