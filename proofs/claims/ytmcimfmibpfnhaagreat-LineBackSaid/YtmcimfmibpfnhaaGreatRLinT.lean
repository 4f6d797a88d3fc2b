
/- Lines, plainly: how many rows, where they end, marks. -/
import Derived.Test.YtmcimfmibpfnhaaGreatRLinS
set_option linter.all false
set_option linter.deprecated false
namespace Go.Am
variable {oc : Orc} [OrcI oc]
set_option maxRecDepth 8000
set_option maxHeartbeats 1000000
/-! How many rows. -/
end Go.Am
