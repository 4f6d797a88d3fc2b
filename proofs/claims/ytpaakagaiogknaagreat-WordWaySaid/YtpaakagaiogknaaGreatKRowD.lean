
/- Cells as slices: copies, comparisons, what is used of a row. -/
import Derived.Test.YtpaakagaiogknaaGreatKRowM2
set_option linter.all false
set_option linter.deprecated false
namespace Go.Am
variable {oc : Orc} [OrcI oc]
open Go.Proofs
set_option maxRecDepth 8000
set_option maxHeartbeats 4000000
theorem flat_ces (l : List Ce) : FlatE (cesA l) := FlatE.map (fun c x hx => by simp at hx; rcases hx with rfl | rfl | rfl <;> rfl) l
theorem app_cell : appInfo (ELo oc).P 33 = some (26, 24, 3) := by kernel_rfl
theorem ces_nil {l : List Ce} : cesA l = [] ↔ l = [] := by cases l <;> simp

section
variable {ys : List (Nat × LRec)} {lo : Nat} {H : AHeap} {A B : AV} {l m : List Ce}
end
end Go.Am
