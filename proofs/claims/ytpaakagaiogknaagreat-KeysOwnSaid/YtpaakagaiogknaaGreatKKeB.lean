
/- Keys: KeysAll's law. -/
import Derived.Test.YtpaakagaiogknaaGreatKKeA
set_option linter.all false
set_option linter.deprecated false
namespace Go.Am
variable {oc : Orc} [OrcI oc]
open Go.Proofs
set_option maxRecDepth 8000
set_option maxHeartbeats 8000000
section
end
end Go.Am
