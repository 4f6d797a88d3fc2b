
/- Cells and rows: what is compared, copied, told. -/
import Derived.Test.YtpaakagaiogknaaGreatKRowE
import Derived.Test.YtpaakagaiogknaaGreatKRowP
set_option linter.all false
set_option linter.deprecated false
namespace Go.Am
variable {oc : Orc} [OrcI oc]
open Go.Proofs
set_option maxRecDepth 8000
set_option maxHeartbeats 4000000

/-- A row's value. -/
abbrev rowA (A : AV) (wr : Bool) : AV := .agg [A, .v (.bool wr)]
/-- A sign's cells, or a pad. -/
def signI (new : List Ce) : Prop := (new.length = 1 ∧ (new.getD 0 zeroC).w = 1 ∧ mayC (new.getD 0 zeroC).r (new.getD 0 zeroC).w (new.getD 0 zeroC).a) ∨ (new.length = 2 ∧ (new.getD 0 zeroC).w = 2 ∧ mayC (new.getD 0 zeroC).r (new.getD 0 zeroC).w (new.getD 0 zeroC).a ∧ new.getD 1 zeroC = ⟨0, 0, (new.getD 0 zeroC).a⟩)
instance (new : List Ce) : Decidable (signI new) := inferInstanceAs (Decidable (_ ∨ _))
section
variable {ys : List (Nat × LRec)} {lo : Nat} {H : AHeap} {A B : AV} {l m : List Ce} {wr wr' : Bool}
end
end Go.Am
