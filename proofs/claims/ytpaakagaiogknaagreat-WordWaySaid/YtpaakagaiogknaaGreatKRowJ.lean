/- Parts of the proof: KRowG KRowH KRowI KRowJ. -/
import Derived.Test.YtpaakagaiogknaaGreatKRowF
set_option linter.all false
set_option linter.deprecated false

namespace Go.Am
variable {oc : Orc} [OrcI oc]
open Go.Proofs
set_option maxRecDepth 8000
set_option maxHeartbeats 4000000
/-! Facts about a slice of cells, on every heap that goes on from where it was. -/
section
variable (lo : Nat) {H0 : AHeap} {A : AV} {l : List Ce} (hA : SlH H0 3 A (cesA l)) (H : AHeap) (hx : Ext H0 H)
include hA hx
theorem len_cellX : primL lo H (builtinA (ELo oc) .len #[33] 3 [A]) = some (.v (.int .i64 l.length), H, rdTr A) := len_cell lo (hA.ext hx)
theorem ix_cellX (κ : IntKind) (z : Int) (h0 : 0 ≤ z) (h1 : z < l.length) : primL lo H (indexAddrA (ELo oc) 33 A (.v (.int κ z))) = some (ixA A (cesA l) z.toNat, H, rdTr A) := ix_cell lo (hA.ext hx) κ z h0 h1
theorem ld_cellX (j : Nat) (h : j < l.length) : primL lo H (loadA (ELo oc) 26 (ixA A (cesA l) j)) = some (.agg [.v (.int .i32 (l.getD j zeroC).r), .v (.int .i64 (l.getD j zeroC).w), .v (.int .i64 (l.getD j zeroC).a)], H, rdTr A) := ld_cell lo (hA.ext hx) j h
theorem fa_cellX (j f : Nat) (h : f < 3) : primL lo H (fieldAddrA (ELo oc) 26 f (ixA A (cesA l) j)) = some (fxA A (cesA l) j f, H, rdTr A) := fa_cell lo (hA.ext hx) j f h
theorem lf_wX (j : Nat) (h : j < l.length) : primL lo H (loadA (ELo oc) 3 (fxA A (cesA l) j 1)) = some (.v (.int .i64 (l.getD j zeroC).w), H, rdTr A) := lf_w lo (hA.ext hx) j h
theorem lf_aX (j : Nat) (h : j < l.length) : primL lo H (loadA (ELo oc) 3 (fxA A (cesA l) j 2)) = some (.v (.int .i64 (l.getD j zeroC).a), H, rdTr A) := lf_a lo (hA.ext hx) j h
theorem lf_rX (j : Nat) (h : j < l.length) : primL lo H (loadA (ELo oc) 21 (fxA A (cesA l) j 0)) = some (.v (.int .i32 (l.getD j zeroC).r), H, rdTr A) := lf_r lo (hA.ext hx) j h
theorem sl_hiX (κ : IntKind) (z : Int) (h0 : 0 ≤ z) (h1 : z ≤ l.length) : primL lo H (sliceA (ELo oc) 33 A none (some (.v (.int κ z))) none) = some (cutA A 0 z.toNat, H, rdTr A) := sl_hi lo (hA.ext hx) κ z h0 h1
theorem sl_loX (κ : IntKind) (z : Int) (h0 : 0 ≤ z) (h1 : z ≤ l.length) : primL lo H (sliceA (ELo oc) 33 A (some (.v (.int κ z))) none none) = some (cutA A z.toNat (cesA l).length, H, rdTr A) := sl_lo lo (hA.ext hx) κ z h0 h1
theorem sl_lohiX (κ κ' : IntKind) (y z : Int) (h : 0 ≤ y) (h0 : y ≤ z) (h1 : z ≤ l.length) : primL lo H (sliceA (ELo oc) 33 A (some (.v (.int κ y))) (some (.v (.int κ' z))) none) = some (cutA A y.toNat z.toNat, H, rdTr A) := sl_lohi lo (hA.ext hx) κ κ' y z h h0 h1
end
section
variable {ys : List (Nat × LRec)} {lo : Nat} {H : AHeap} {A B : AV} {l m : List Ce} {wr wr' : Bool}
end
end Go.Am

namespace Go.Am
variable {oc : Orc} [OrcI oc]
open Go.Proofs
set_option maxRecDepth 8000
set_option maxHeartbeats 4000000
section
variable {ys : List (Nat × LRec)} {lo : Nat} {H : AHeap} {A B : AV} {l m : List Ce} {wr wr' : Bool}
end
end Go.Am

namespace Go.Am
variable {oc : Orc} [OrcI oc]
open Go.Proofs
set_option maxRecDepth 8000
set_option maxHeartbeats 4000000
section
variable {ys : List (Nat × LRec)} {lo : Nat} {H : AHeap} {A B : AV} {l m : List Ce} {wr wr' : Bool}
end
end Go.Am

namespace Go.Am
variable {oc : Orc} [OrcI oc]
open Go.Proofs
set_option maxRecDepth 8000
set_option maxHeartbeats 4000000
section
variable {ys : List (Nat × LRec)} {lo : Nat} {H : AHeap} {A B : AV} {l m : List Ce} {wr wr' : Bool}
theorem May_R (hA : SlH H 3 A (cesA l)) (hl : l.length < 2 ^ 40) : CallRo (ELo oc) ys lo 97 [rowA A wr] H (.v (.bool (decide (rowG l)))) := by
  refine WC.pureR rfl fun lo' H' hh => ?_
  have hA' := (hA.two (.inr ⟨[A, .v (.bool wr)], .inl (by simp)⟩) hh)
  obtain ⟨n, r, H'', h1, rfl⟩ := rowMay_wc lo' H' A l wr hA' (by rw [lo_two hh]; exact Nat.le_refl _) hl
  refine ⟨n, _, H'', h1, ?_⟩
  show frzR H'' lo' (.v _) = _
  rw [frzR_v]; congr 2; rw [decide_eq_decide]; exact rowG_P l
/-- What Set is told to do may be done. -/
def setOk (l : List Ce) (col : Int) (m : List Ce) : Prop := rowG l ∧ signI m ∧ 0 ≤ col ∧ col ≤ (l.length : Int) - m.length
instance (l : List Ce) (col : Int) (m : List Ce) : Decidable (setOk l col m) := inferInstanceAs (Decidable (_ ∧ _))

end
end Go.Am
