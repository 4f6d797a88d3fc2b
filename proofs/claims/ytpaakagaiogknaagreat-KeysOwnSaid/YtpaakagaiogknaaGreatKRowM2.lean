
/- Rows that may be: the reference's Row. -/
import Derived.Test.YtpaakagaiogknaaGreatKRowM
import Derived.Test.YtpaakagaiogknaaGreatAmD
set_option linter.all false
set_option linter.deprecated false
namespace Go.Am
variable {oc : Orc} [OrcI oc]
open Go.Proofs
set_option maxRecDepth 8000
set_option maxHeartbeats 4000000
def refOk (l : List Ce) (i : Nat) : Prop := mayC (l.getD i zeroC).r (l.getD i zeroC).w (l.getD i zeroC).a ∧ ¬((l.getD i zeroC).w = 2 ∧ (l.length ≤ i + 1 ∨ l.getD (i + 1) zeroC ≠ ⟨0, 0, (l.getD i zeroC).a⟩)) ∧ ¬((l.getD i zeroC).w = 0 ∧ (i = 0 ∨ (l.getD (i - 1) zeroC).w ≠ 2 ∨ (l.getD (i - 1) zeroC).a ≠ (l.getD i zeroC).a))
instance (l : List Ce) (i : Nat) : Decidable (refOk l i) := inferInstanceAs (Decidable (_ ∧ _))
theorem Ce.eq {c : Ce} {r w a : Int} (h1 : c.r = r) (h2 : c.w = w) (h3 : c.a = a) : c = ⟨r, w, a⟩ := by cases c; simp_all
theorem Ce.eqv {c : Ce} {r w a : Int} : c = ⟨r, w, a⟩ ↔ c.r = r ∧ c.w = w ∧ c.a = a := by cases c; simp
/-! Cells of a slice. -/
section
variable {H : AHeap} {A : AV} {l : List Ce}
end
section
variable {ys : List (Nat × LRec)} {lo : Nat} {H : AHeap}
end
end Go.Am
