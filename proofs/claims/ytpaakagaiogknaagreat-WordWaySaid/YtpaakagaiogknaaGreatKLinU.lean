
/- Rows laid out: small words for the laws. -/
import Derived.Test.YtpaakagaiogknaaGreatKLinF
import Derived.Test.YtpaakagaiogknaaGreatKLinQ
set_option linter.all false
set_option linter.deprecated false
namespace Go.Am
variable {oc : Orc} [OrcI oc]
open Go.Proofs
set_option maxRecDepth 8000
set_option maxHeartbeats 4000000
theorem R32_takeU {l : List Ce} (h : R32 l) (n : Nat) : R32 (l.take n) := R32_mem.2 fun c hc => R32_mem.1 h c (List.mem_of_mem_take hc)
theorem cut_Sl {A : AV} {l : List Ce} (hA : Sl 3 A (cesA l)) (n : Nat) : Sl 3 (cutA A 0 n) (cesA (l.take n)) := by
  have h := cutA_Sl (lo := 0) (hi := n) hA
  rw [List.drop_zero, Nat.sub_zero] at h
  unfold cesA at *
  rw [List.map_take]; exact h
section
variable {H0 : AHeap} {A : AV} {es : List (List AV)} {rows : List Rw} {ls : List (List Ce)}
end
end Go.Am
