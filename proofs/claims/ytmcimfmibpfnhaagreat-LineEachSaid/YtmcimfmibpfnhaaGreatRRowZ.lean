
/- Rows told as they are: small words. -/
import Derived.Test.YtmcimfmibpfnhaaGreatRRowD
import Derived.Test.YtmcimfmibpfnhaaGreatRRowP
set_option linter.all false
set_option linter.deprecated false
namespace Go.Am
variable {oc : Orc} [OrcI oc]
open Go.Proofs
set_option maxRecDepth 8000
end Go.Am
