
/- Keys: the reference's Deed. -/
import Derived.Test.YtpaakagaiogknaaGreatKLinA
set_option linter.all false
set_option linter.deprecated false
namespace Go.Am
variable {oc : Orc} [OrcI oc]
open Go.Proofs
set_option maxRecDepth 8000
set_option maxHeartbeats 8000000
theorem extract_size (s : ByteArray) (l r : Nat) (h1 : l ≤ r) (h2 : r ≤ s.size) : (s.extract l r).size = r - l := by
  rw [ByteArray.size_extract]; omega

/-- Words between blanks. -/
def wdsG (acc : List UInt8) : List UInt8 → List (List UInt8)
  | [] => [acc]
  | c :: r => if c = 32 then acc :: (if r = [] then [] else wdsG [] r) else wdsG (acc ++ [c]) r
def wds (s : List UInt8) : List (List UInt8) := if s = [] then [] else wdsG [] s
def hitP (l : List ByteArray) (key : ByteArray) (j : Nat) : Prop := 1 ≤ j ∧ key.size ≠ 0 ∧ key.data.toList ∈ wds (l.getD j ByteArray.empty).data.toList
instance (l : List ByteArray) (key : ByteArray) (j : Nat) : Decidable (hitP l key j) := inferInstanceAs (Decidable (_ ∧ _))
section
variable {ys : List (Nat × LRec)} {lo : Nat} {H : AHeap}
end
end Go.Am
