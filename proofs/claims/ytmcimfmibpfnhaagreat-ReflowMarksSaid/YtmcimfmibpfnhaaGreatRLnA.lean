
/- LineEnds: the end of each line has a place. -/
import Derived.Test.YtmcimfmibpfnhaaGreatRLinZ
import Derived.Test.YtmcimfmibpfnhaaGreatRLinG
set_option linter.all false
set_option linter.deprecated false
namespace Go.Am
variable {oc : Orc} [OrcI oc]
open Go.Proofs
set_option maxRecDepth 8000
set_option maxHeartbeats 4000000
section
variable {A : AV} {es : List (List AV)} {ls : List (List Ce)}
end
end Go.Am
