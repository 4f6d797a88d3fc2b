/- What came in, of any type of numbers, texts, structs and slices of these: told by abstract values. -/
import Derived.Test.YtpaakagaiogknaaGreatAmC
import Derived.ChangeArms
set_option linter.all false
set_option linter.deprecated false
namespace Go.Am
open Go.ChangeShapes Go.WideShapes Go.RowKit

section
variable {H : Type} {enc : TypeId × Value → H} {P : Program} {w : World} {base : Nat} {spare : Nat → Bool} {held : Bool}
end
end Go.Am
