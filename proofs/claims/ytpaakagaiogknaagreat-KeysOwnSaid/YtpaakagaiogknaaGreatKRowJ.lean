/- Parts of the proof: KRowG KRowH KRowI KRowJ. -/
import Derived.Test.YtpaakagaiogknaaGreatKRowF
set_option linter.all false
set_option linter.deprecated false

namespace Go.Am
variable {oc : Orc} [OrcI oc]
open Go.Proofs
set_option maxRecDepth 8000
set_option maxHeartbeats 4000000
/-! Facts about a slice of cells, on every heap that goes on from where it was. -/
section
variable (lo : Nat) {H0 : AHeap} {A : AV} {l : List Ce} (hA : SlH H0 3 A (cesA l)) (H : AHeap) (hx : Ext H0 H)
include hA hx
end
section
variable {ys : List (Nat × LRec)} {lo : Nat} {H : AHeap} {A B : AV} {l m : List Ce} {wr wr' : Bool}
end
end Go.Am

namespace Go.Am
variable {oc : Orc} [OrcI oc]
open Go.Proofs
set_option maxRecDepth 8000
set_option maxHeartbeats 4000000
section
variable {ys : List (Nat × LRec)} {lo : Nat} {H : AHeap} {A B : AV} {l m : List Ce} {wr wr' : Bool}
end
end Go.Am

namespace Go.Am
variable {oc : Orc} [OrcI oc]
open Go.Proofs
set_option maxRecDepth 8000
set_option maxHeartbeats 4000000
section
variable {ys : List (Nat × LRec)} {lo : Nat} {H : AHeap} {A B : AV} {l m : List Ce} {wr wr' : Bool}
end
end Go.Am

namespace Go.Am
variable {oc : Orc} [OrcI oc]
open Go.Proofs
set_option maxRecDepth 8000
set_option maxHeartbeats 4000000
section
variable {ys : List (Nat × LRec)} {lo : Nat} {H : AHeap} {A B : AV} {l m : List Ce} {wr wr' : Bool}
theorem May_R (hA : SlH H 3 A (cesA l)) (hl : l.length < 2 ^ 40) : CallRo (ELo oc) ys lo 97 [rowA A wr] H (.v (.bool (decide (rowG l)))) := by
  refine WC.pureR rfl fun lo' H' hh => ?_
  have hA' := (hA.two (.inr ⟨[A, .v (.bool wr)], .inl (by simp)⟩) hh)
  obtain ⟨n, r, H'', h1, rfl⟩ := rowMay_wc lo' H' A l wr hA' (by rw [lo_two hh]; exact Nat.le_refl _) hl
  refine ⟨n, _, H'', h1, ?_⟩
  show frzR H'' lo' (.v _) = _
  rw [frzR_v]; congr 2; rw [decide_eq_decide]; exact rowG_P l
/-- What Set is told to do may be done. -/
def setOk (l : List Ce) (col : Int) (m : List Ce) : Prop := rowG l ∧ signI m ∧ 0 ≤ col ∧ col ≤ (l.length : Int) - m.length
instance (l : List Ce) (col : Int) (m : List Ce) : Decidable (setOk l col m) := inferInstanceAs (Decidable (_ ∧ _))

end
end Go.Am
