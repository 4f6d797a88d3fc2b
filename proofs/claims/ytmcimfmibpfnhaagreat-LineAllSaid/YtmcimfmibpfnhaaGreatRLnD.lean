
/- LineJoin: rows of two panes, one behind the other. -/
import Derived.Test.YtmcimfmibpfnhaaGreatRLnC
import Derived.Test.YtmcimfmibpfnhaaGreatRLinY
set_option linter.all false
set_option linter.deprecated false
namespace Go.Am
variable {oc : Orc} [OrcI oc]
open Go.Proofs
set_option maxRecDepth 8000
set_option maxHeartbeats 4000000
section
variable {A B : AV} {es fs : List (List AV)} {a b : List Rw}
end
end Go.Am
