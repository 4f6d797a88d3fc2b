
/- RowSpan: what is erased is blank. -/
import Derived.Test.YtmcimfmibpfnhaaGreatPRowL
import Derived.Test.YtmcimfmibpfnhaaGreatAmF
set_option linter.all false
set_option linter.deprecated false
namespace Go.Am
variable {oc : Orc} [OrcI oc]
open Go.Proofs
set_option maxRecDepth 8000
set_option maxHeartbeats 4000000
theorem eraL_len (l : List Ce) (a b : Nat) : (eraL l a b).length = l.length := by unfold eraL; split <;> simp [putL_len]
theorem eraG {l : List Ce} (hl : rowG l) {a b : Nat} (h : a ≤ b) (hb : b ≤ l.length) : rowG (eraL l a b) := by
  unfold eraL
  split
  · exact hl
  · exact put_rowG hl _ _ (by rw [blanks_len]; omega) (by rw [blanks_len]; omega) (blank_cells _)
section
variable {ys : List (Nat × LRec)} {lo : Nat} {H : AHeap} {A B : AV} {l m : List Ce} {wr wr' : Bool}
/-! What came in. -/
end
end Go.Am
