
/- LineBack, joined. -/
import Derived.Test.YtmcimfmibpfnhaaGreatRLinX
import Derived.Test.YtmcimfmibpfnhaaGreatRLinW
import Derived.Test.YtmcimfmibpfnhaaGreatRBeg4
set_option linter.all false
set_option linter.deprecated false
namespace Go.Am
variable {oc : Orc} [OrcI oc]
open Go.Proofs
set_option maxRecDepth 100000
theorem LineBack_run (v : List AV) (hv : Wd Tryz.prog 6 41 v) (w : Int) (hw : (Lit.int .i64 w).wf = true) : WC EF [] 0 5 [v.getD 0 .dead, .v (.int .i64 w)] .empty fun x _ => x = .v (.bool true) := by
  obtain ⟨B, m, rfl, hB, hm, hrm⟩ := wd_cellsS hv
  exact LineBack_law (fun ys lo H => begun_F) hB hm hrm w (i64_wf hw)
end Go.Am
