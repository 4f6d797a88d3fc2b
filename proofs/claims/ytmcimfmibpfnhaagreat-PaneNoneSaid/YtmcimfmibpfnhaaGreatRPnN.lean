
/- PaneNone: a closed law, run by the kernel. -/
import Derived.Test.YtmcimfmibpfnhaaGreatRBeg4
set_option linter.all false
set_option linter.deprecated false
namespace Go.Am
variable {oc : Orc} [OrcI oc]
open Go.Proofs
set_option maxRecDepth 100000
theorem paneNone_true : isT (acall EF [] 3000 0 21 [] .empty) = true := by kernel_rfl
theorem PaneNone_run : WC EF [] 0 21 [] .empty fun x _ => x = .v (.bool true) := by
  obtain ⟨H, h⟩ := isT_ok paneNone_true
  exact ⟨3000, _, H, h, rfl⟩
end Go.Am
