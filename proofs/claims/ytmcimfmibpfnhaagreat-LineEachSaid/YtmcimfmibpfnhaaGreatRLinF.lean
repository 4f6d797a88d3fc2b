/- Parts of the proof: RLinD RLinE RLinF. -/
import Derived.Test.YtmcimfmibpfnhaaGreatRLinC
import Derived.Test.YtmcimfmibpfnhaaGreatRRowZ
import Derived.Test.YtmcimfmibpfnhaaGreatRRowK
set_option linter.all false
set_option linter.deprecated false

namespace Go.Am
variable {oc : Orc} [OrcI oc]
open Go.Proofs
set_option maxRecDepth 8000
set_option maxHeartbeats 4000000

/-! A row under way. -/
theorem set_last {α : Type} {es : List α} {x y : α} {k : Nat} (h : k = es.length) : (es ++ [x]).set k y = es ++ [y] := by
  subst h
  rw [List.set_append_right _ _ (Nat.le_refl _), Nat.sub_self]; rfl

section
variable {ys : List (Nat × LRec)} {lo : Nat} {H : AHeap} {A : AV} {l : List Ce} {es : List (List AV)} {ls : List (List Ce)}
end
end Go.Am

namespace Go.Am
variable {oc : Orc} [OrcI oc]
open Go.Proofs
set_option maxRecDepth 8000
set_option maxHeartbeats 8000000
theorem app_row' : appInfo (ELo oc).P 22 = some (48, 32, 2) := by kernel_rfl
section
variable {ys : List (Nat × LRec)} {lo : Nat} {H : AHeap} {A : AV} {l : List Ce} {es : List (List AV)} {ls : List (List Ce)}
end
end Go.Am

namespace Go.Am
variable {oc : Orc} [OrcI oc]
open Go.Proofs
set_option maxRecDepth 8000
set_option maxHeartbeats 8000000
section
variable {ys : List (Nat × LRec)} {lo : Nat} {H : AHeap} {A : AV} {es : List (List AV)} {ls : List (List Ce)} {rows : List Rw}
end
end Go.Am
