
/- Rows: plain laws. What the program's Set and Erase do, and what the reference's do, is alike. -/
import Derived.Test.YtpaakagaiogknaaGreatKRowM2
set_option linter.all false
set_option linter.deprecated false
namespace Go.Am
variable {oc : Orc} [OrcI oc]
set_option maxRecDepth 8000
set_option maxHeartbeats 1000000

/-- A row that may be, cell by cell. -/
def rowG (l : List Ce) : Prop := l.length ≤ 300 ∧ ∀ i, i < l.length → mayC (l.getD i zeroC).r (l.getD i zeroC).w (l.getD i zeroC).a ∧
  ((l.getD i zeroC).w = 0 → 0 < i ∧ (l.getD (i - 1) zeroC).w = 2 ∧ (l.getD (i - 1) zeroC).a = (l.getD i zeroC).a) ∧ ((l.getD i zeroC).w = 2 → i + 1 < l.length ∧ (l.getD (i + 1) zeroC).w = 0)
theorem rowG_P (l : List Ce) : rowP l ↔ rowG l := by
  constructor
  · rintro ⟨h1, h2, h3⟩
    refine ⟨h1, fun i hi => ?_⟩
    obtain ⟨a, b, c⟩ := h2 i hi
    refine ⟨a, fun e => ?_, fun e => ?_⟩
    · rw [decide_eq_true e] at b
      cases i with
      | zero => cases b
      | succ k => exact ⟨Nat.succ_pos k, by simpa [openB] using b, (c b).symm⟩
    · have ho : openB l (i + 1) = true := decide_eq_true e
      rcases Nat.lt_or_ge (i + 1) l.length with hl | hl
      · obtain ⟨_, b', _⟩ := h2 (i + 1) hl
        rw [ho] at b'
        exact ⟨hl, by simpa using b'.symm⟩
      · have : i + 1 = l.length := by omega
        rw [← this, ho] at h3; cases h3
  · rintro ⟨h1, h2⟩
    have hz : ∀ i, i < l.length → openB l i = decide ((l.getD i zeroC).w = 0) := by
      intro i hi
      cases i with
      | zero =>
        symm
        rw [show openB l 0 = false from rfl, decide_eq_false_iff_not]
        intro e
        exact absurd ((h2 0 hi).2.1 e).1 (Nat.lt_irrefl 0)
      | succ k =>
        show decide _ = decide _
        rw [decide_eq_decide]
        exact ⟨fun e => ((h2 k (by omega)).2.2 e).2, fun e => ((h2 (k + 1) hi).2.1 e).2.1⟩
    refine ⟨h1, fun i hi => ⟨(h2 i hi).1, hz i hi, fun e => ?_⟩, ?_⟩
    · rw [hz i hi, decide_eq_true_eq] at e
      obtain ⟨e1, _, e3⟩ := (h2 i hi).2.1 e
      cases i with
      | zero => omega
      | succ k => exact e3.symm
    · cases hl : l.length with
      | zero => rfl
      | succ k =>
        show decide _ = false
        rw [decide_eq_false_iff_not]
        intro e
        have := ((h2 k (by omega)).2.2 e).1
        omega
instance (l : List Ce) : Decidable (rowG l) := decidable_of_iff _ (rowG_P l)

/-- A half that is left alone. -/
def lone (o : List Ce) (i : Nat) : Prop := ((o.getD i zeroC).w = 2 ∧ (i + 1 = o.length ∨ (o.getD (i + 1) zeroC).w ≠ 0)) ∨ ((o.getD i zeroC).w = 0 ∧ (i = 0 ∨ (o.getD (i - 1) zeroC).w ≠ 2))
instance (o : List Ce) (i : Nat) : Decidable (lone o i) := inferInstanceAs (Decidable (_ ∨ _))
abbrev Rw := List Ce × Bool
end Go.Am
