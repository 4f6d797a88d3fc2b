
/- Rows and lines as they lie in slices. -/
import Derived.Test.YtpaakagaiogknaaGreatKLinT
import Derived.Test.YtpaakagaiogknaaGreatAmG
set_option linter.all false
set_option linter.deprecated false
namespace Go.Am
variable {oc : Orc} [OrcI oc]
open Go.Proofs
set_option maxRecDepth 8000
set_option maxHeartbeats 4000000

/-! Facts for walks: rows by A, elements es; lines by A. -/
section
variable {H0 : AHeap} {A : AV} {es : List (List AV)} {rows : List Rw} {ls : List (List Ce)}
end
/-! Signs. -/
end Go.Am
