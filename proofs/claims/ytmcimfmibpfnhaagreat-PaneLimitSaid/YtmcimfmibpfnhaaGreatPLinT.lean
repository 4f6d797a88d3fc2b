/- Parts of the proof: PLinP PLinS PLinT. -/
import Derived.Test.YtmcimfmibpfnhaaGreatPRowD
import Derived.Test.YtmcimfmibpfnhaaGreatPRowP
set_option linter.all false
set_option linter.deprecated false

namespace Go.Am
variable {oc : Orc} [OrcI oc]
set_option maxRecDepth 8000
set_option maxHeartbeats 1000000
/-! Cells. -/
def lineC (c : Ce) : Prop := mayC c.r c.w c.a ∧ c.w ≠ 0 ∧ c ≠ padC
instance (c : Ce) : Decidable (lineC c) := inferInstanceAs (Decidable (_ ∧ _))
def lineG (l : List Ce) : Prop := ∀ c ∈ l, lineC c
instance (l : List Ce) : Decidable (lineG l) := inferInstanceAs (Decidable (∀ c ∈ l, lineC c))

theorem lineC.w {c : Ce} (h : lineC c) : c.w = 1 ∨ c.w = 2 := by
  obtain ⟨⟨_, h1⟩, h2, h3⟩ := h
  rcases h1 with ⟨a, b, d⟩ | ⟨a, _⟩ | ⟨a, _⟩
  · exact absurd (Ce.eqv.2 ⟨a, b, d⟩) h3
  · exact absurd a h2
  · exact a
/-! Trimmed. -/
/-! Rows joined. -/
theorem lineG.app {a b : List Ce} (h : lineG a) (h' : lineG b) : lineG (a ++ b) := fun c hc => (List.mem_append.1 hc).elim (h c) (h' c)
/-! Lines laid out. -/
def mayL (l : List Ce) (w : Int) : Prop := 2 ≤ w ∧ w ≤ 300 ∧ lineG l
instance (l : List Ce) (w : Int) : Decidable (mayL l w) := inferInstanceAs (Decidable (_ ∧ _))
end Go.Am

namespace Go.Am
variable {oc : Orc} [OrcI oc]
set_option maxRecDepth 8000
set_option maxHeartbeats 1000000

/-! Spots. -/
/-! Places. -/
/-! Rows joined, as the document says. -/
end Go.Am

namespace Go.Am
variable {oc : Orc} [OrcI oc]
set_option maxRecDepth 8000
set_option maxHeartbeats 1000000
/-! How many rows. -/
end Go.Am
