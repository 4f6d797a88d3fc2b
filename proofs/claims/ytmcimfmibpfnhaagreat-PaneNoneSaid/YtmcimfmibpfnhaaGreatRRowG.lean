
/- Rows: copies; row.put; the reference's over and mark. -/
import Derived.Test.YtmcimfmibpfnhaaGreatRRowF
set_option linter.all false
set_option linter.deprecated false
namespace Go.Am
variable {oc : Orc} [OrcI oc]
open Go.Proofs
set_option maxRecDepth 8000
set_option maxHeartbeats 4000000
/-! Facts about a slice of cells, on every heap that goes on from where it was. -/
section
variable (lo : Nat) {H0 : AHeap} {A : AV} {l : List Ce} (hA : SlH H0 3 A (cesA l)) (H : AHeap) (hx : Ext H0 H)
include hA hx
end
section
variable {ys : List (Nat × LRec)} {lo : Nat} {H : AHeap} {A B : AV} {l m : List Ce} {wr wr' : Bool}
end
end Go.Am
