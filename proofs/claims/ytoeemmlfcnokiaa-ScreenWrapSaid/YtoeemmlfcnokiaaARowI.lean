
/- Rows: the reference's mark, blank rows, what is used; a sign. -/
import Derived.Test.YtoeemmlfcnokiaaARowH
set_option linter.all false
set_option linter.deprecated false
namespace Go.Am
open Go.Proofs
set_option maxRecDepth 8000
set_option maxHeartbeats 4000000
theorem blanks_succ (i : Nat) : cesA (blanks i) ++ [[.v (.int .i32 32), .v (.int .i64 1), .v (.int .i64 0)]] = cesA (blanks (i + 1)) := by
  show _ = cesA (List.replicate (i + 1) blankC)
  rw [List.replicate_succ']; simp [blanks]
section
variable {ys : List (Nat × LRec)} {lo : Nat} {H : AHeap} {A B : AV} {l m : List Ce} {wr wr' : Bool}
end
end Go.Am
