
/- Cells: trimmed, compared, copied; rows compared, copied. -/
import Derived.Test.YtpaakagaiogknaaGreatKRowD
set_option linter.all false
set_option linter.deprecated false
namespace Go.Am
variable {oc : Orc} [OrcI oc]
open Go.Proofs
set_option maxRecDepth 8000
set_option maxHeartbeats 4000000
theorem sl_hi (lo : Nat) {H : AHeap} {A : AV} {l : List Ce} (hA : SlH H 3 A (cesA l)) (κ : IntKind) (z : Int) (h0 : 0 ≤ z) (h1 : z ≤ l.length) : primL lo H (sliceA (ELo oc) 33 A none (some (.v (.int κ z))) none) = some (cutA A 0 z.toNat, H, rdTr A) :=
  slice_SlH (ELo oc) lo (by kernel_rfl) hA none _ (bound_none 0) (bound_some κ z _ h0) (Nat.zero_le _) (by rw [ces_len]; omega)
theorem sl_lo (lo : Nat) {H : AHeap} {A : AV} {l : List Ce} (hA : SlH H 3 A (cesA l)) (κ : IntKind) (z : Int) (h0 : 0 ≤ z) (h1 : z ≤ l.length) : primL lo H (sliceA (ELo oc) 33 A (some (.v (.int κ z))) none none) = some (cutA A z.toNat (cesA l).length, H, rdTr A) :=
  slice_SlH (ELo oc) lo (by kernel_rfl) hA _ none (bound_some κ z _ h0) (bound_none _) (by rw [ces_len]; omega) (Nat.le_refl _)
theorem sl_lohi (lo : Nat) {H : AHeap} {A : AV} {l : List Ce} (hA : SlH H 3 A (cesA l)) (κ κ' : IntKind) (y z : Int) (h : 0 ≤ y) (h0 : y ≤ z) (h1 : z ≤ l.length) : primL lo H (sliceA (ELo oc) 33 A (some (.v (.int κ y))) (some (.v (.int κ' z))) none) = some (cutA A y.toNat z.toNat, H, rdTr A) :=
  slice_SlH (ELo oc) lo (by kernel_rfl) hA _ _ (bound_some κ y _ h) (bound_some κ' z _ (by omega)) (by omega) (by rw [ces_len]; omega)
section
variable {ys : List (Nat × LRec)} {lo : Nat} {H : AHeap} {A B : AV} {l m : List Ce} {wr wr' : Bool}
end
end Go.Am
