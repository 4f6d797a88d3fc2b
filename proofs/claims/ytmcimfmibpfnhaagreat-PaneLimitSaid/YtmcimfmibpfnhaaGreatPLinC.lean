/- Parts of the proof: PLinB PLinC. -/
import Derived.Test.YtmcimfmibpfnhaaGreatPLinA
import Derived.Test.YtmcimfmibpfnhaaGreatPRowJ
set_option linter.all false
set_option linter.deprecated false

namespace Go.Am
variable {oc : Orc} [OrcI oc]
open Go.Proofs
set_option maxRecDepth 8000
set_option maxHeartbeats 4000000

/-- Cells, frozen; nil if there are none. -/
def slA (l : List Ce) : AV := if l = [] then nilA else .sl 3 (cesA l)
section
variable {ys : List (Nat × LRec)} {lo : Nat} {H : AHeap} {A B : AV} {l m : List Ce} {wr wr' : Bool}
/-! Lines that may be. -/
end
end Go.Am

namespace Go.Am
variable {oc : Orc} [OrcI oc]
open Go.Proofs
set_option maxRecDepth 8000
set_option maxHeartbeats 4000000
abbrev rwsBlk (A : AV) : Blk := ⟨22, 1, 0, [[A]], none⟩
section
variable {ys : List (Nat × LRec)} {lo : Nat} {H : AHeap} {A : AV} {es : List (List AV)} {rows : List Rw}
theorem find_self {α : Type} (k : Nat) (r : α) (l : List (Nat × α)) : ((k, r) :: l).find? (fun p => p.1 == k) = some (k, r) := by simp [List.find?]
theorem js_on (J : List LS) : (J ++ [LS.on])[J.length]? = some LS.on := by simp
theorem js_off (J : List LS) (x y : LS) : ((J ++ [x]).set J.length y) = J ++ [y] := by
  rw [List.set_append_right _ _ (Nat.le_refl _), Nat.sub_self]; rfl
end
end Go.Am
