
/- LinePlaces, joined. -/
import Derived.Test.YtmcimfmibpfnhaaGreatRLnL
import Derived.Test.YtmcimfmibpfnhaaGreatRLnW
import Derived.Test.YtmcimfmibpfnhaaGreatRBeg4
set_option linter.all false
set_option linter.deprecated false
namespace Go.Am
variable {oc : Orc} [OrcI oc]
open Go.Proofs
set_option maxRecDepth 100000
theorem LinePlaces_run (v : List AV) (hv : Wd Tryz.prog 6 23 v) (w : Int) (hw : (Lit.int .i64 w).wf = true) : WC EF [] 0 6 [v.getD 0 .dead, .v (.int .i64 w)] .empty fun x _ => x = .v (.bool true) := by
  obtain ⟨L, es, ls, rfl, hL, hlen, hE⟩ := wd_linesS (d := 2) hv
  exact LinePlaces_law (fun ys lo H => begun_F) hL hE hlen w (i64_wf hw)
end Go.Am
