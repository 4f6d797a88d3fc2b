/- From a run of the machine to a claim's walk. -/
import Derived.Test.YtmcimfmibpfnhaaGreatAmU
import Derived.Below
import Derived.OpenShut
set_option linter.all false
set_option linter.deprecated false
namespace Go.Am
open Go.ChangeShapes Go.WideShapes Go.RowKit

theorem law_calls {E : Env} (hE : ProgOK E) {f : FuncId} {args : List AV} {w : World} {vs : Array Value} (hr : WC E [] 0 f args .empty fun x _ => x = .v (.bool true))
    (ha : vs.size = args.length ∧ ∀ i, i < args.length → FR w (fun _ => False) (args.getD i .dead) (vs.getD i undef)) :
    Calls E.P f vs w fun e w' => e = .returned (.bool true) ∧ Below w.heap.size w w' := by
  obtain ⟨n, r, H', h1, rfl⟩ := hr
  refine (calls_of_acall (lo := 0) hE h1 ha).mono ?_
  rintro e w' ⟨v, rfl, h2, h3, h4, h5, h6, C, hw, _, _, hv⟩
  refine ⟨?_, h2, h3, h4, h5, h6⟩
  cases hv with
  | fr h => cases h with | v h => rfl
end Go.Am
