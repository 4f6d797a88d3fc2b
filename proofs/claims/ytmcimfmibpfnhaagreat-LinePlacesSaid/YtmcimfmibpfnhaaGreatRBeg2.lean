
/- begun() of layer 7, run by the kernel. -/
import Derived.Test.YtmcimfmibpfnhaaGreatRBeg
set_option linter.all false
set_option linter.deprecated false
namespace Go.Am
variable {oc : Orc} [OrcI oc]
open Go.Proofs
set_option maxRecDepth 100000
theorem begun7_run : isT (acall EB1 [] 3000 0 64 [] .empty) = true := by kernel_rfl
end Go.Am
