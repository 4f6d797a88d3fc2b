/- begun, b2i, Quiet; one parser. -/
import Derived.Test.YtoeemmlfcnokiaaGreatEsc2
set_option linter.all false
set_option linter.deprecated false
namespace Go.Am
open Go.Proofs
set_option maxRecDepth 8000
set_option maxHeartbeats 1000000
section
variable {ys : List (Nat × LRec)} {lo : Nat} {H : AHeap} {F : Nat → Prop} {n : Nat} {w : Int} {t : List Int}
theorem put_mem (w : Int) (t : List Int) (r : Int) : ∀ c ∈ (put w t r).2.1, c ∈ t ∨ c = r := by
  unfold put
  intro c
  (repeat' split) <;> simp <;> (try exact Or.inl)
theorem put_len (w : Int) (t : List Int) (r : Int) : (put w t r).2.1.length ≤ t.length + 1 := by
  unfold put
  (repeat' split) <;> simp
end
end Go.Am
