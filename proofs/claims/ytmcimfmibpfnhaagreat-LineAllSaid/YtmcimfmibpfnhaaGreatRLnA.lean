
/- LineEnds: the end of each line has a place. -/
import Derived.Test.YtmcimfmibpfnhaaGreatRLinZ
import Derived.Test.YtmcimfmibpfnhaaGreatRLinG
set_option linter.all false
set_option linter.deprecated false
namespace Go.Am
variable {oc : Orc} [OrcI oc]
open Go.Proofs
set_option maxRecDepth 8000
set_option maxHeartbeats 4000000
theorem allL_bd (ls : List (List Ce)) (w : Int) (h : ls.length ≤ 10) (h40 : ∀ l ∈ ls, l.length ≤ 40) : (allL ls w).length ≤ 410 := by
  have : ∀ (ls : List (List Ce)), (∀ l ∈ ls, l.length ≤ 40) → (allL ls w).length ≤ ls.length * 41 := by
    intro ls
    induction ls with
    | nil => intro _; exact Nat.le_refl 0
    | cons l ls ih =>
      intro h
      have h1 := layL_le l w
      have h2 := h l List.mem_cons_self
      have h3 := ih fun m hm => h m (List.mem_cons_of_mem _ hm)
      rw [allL_cons, List.length_append, List.length_cons]; omega
  have := this ls h40
  omega
section
variable {A : AV} {es : List (List AV)} {ls : List (List Ce)}
end
end Go.Am
