
/- Rows told as they are: small words. -/
import Derived.Test.YtpaakagaiogknaaGreatKRowD
import Derived.Test.YtpaakagaiogknaaGreatKRowP
set_option linter.all false
set_option linter.deprecated false
namespace Go.Am
variable {oc : Orc} [OrcI oc]
open Go.Proofs
set_option maxRecDepth 8000
theorem ces_ne {l : List Ce} (h : l ≠ []) : cesA l ≠ [] := fun e => h (ces_nil.1 e)

end Go.Am
