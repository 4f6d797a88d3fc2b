
/- Rows laid out: small words for the laws. -/
import Derived.Test.YtmcimfmibpfnhaaGreatRLinF
import Derived.Test.YtmcimfmibpfnhaaGreatRLinQ
set_option linter.all false
set_option linter.deprecated false
namespace Go.Am
variable {oc : Orc} [OrcI oc]
open Go.Proofs
set_option maxRecDepth 8000
set_option maxHeartbeats 4000000
theorem R32_takeU {l : List Ce} (h : R32 l) (n : Nat) : R32 (l.take n) := R32_mem.2 fun c hc => R32_mem.1 h c (List.mem_of_mem_take hc)
section
variable {H0 : AHeap} {A : AV} {es : List (List AV)} {rows : List Rw} {ls : List (List Ce)}
theorem faR (lo : Nat) (hA : SlH H0 2 A es) (H : AHeap) (hx : Ext H0 H) (j f : Nat) (h : f < 2) : primL lo H (fieldAddrA (ELo oc) 48 f (ixA A es j)) = some (fxA A es j f, H, rdTr A) :=
  fieldAddr_SlH (ELo oc) lo (hA.ext hx) 48 f j (by
    have e : ∀ f, f < 2 → fieldOff (ELo oc).P 48 f = some f := by
      intro f h
      have : f = 0 ∨ f = 1 := by omega
      rcases this with rfl | rfl
      · rfl
      · rfl
    exact e f h)
theorem lwR (lo : Nat) (hA : SlH H0 2 A es) (hr : RsP es rows) (H : AHeap) (hx : Ext H0 H) (j : Nat) (h : j < rows.length) : primL lo H (loadA (ELo oc) 4 (fxA A es j 1)) = some (.v (.bool (rows.getD j noRw).2), H, rdTr A) := by
  rw [loadF_SlH (ELo oc) lo (hA.ext hx) 4 j 1 (by rw [hr.len]; exact h) (by decide), hr.cell j h]; rfl
end
end Go.Am
