/- Parts of the proof: PLinQ PLinU PLinW PLinY. -/
import Derived.Test.YtmcimfmibpfnhaaGreatPLinT
import Derived.Test.YtmcimfmibpfnhaaGreatPLinF
import Derived.Test.YtmcimfmibpfnhaaGreatAmF
set_option linter.all false
set_option linter.deprecated false

namespace Go.Am
variable {oc : Orc} [OrcI oc]
open Go.Proofs
set_option maxRecDepth 8000
set_option maxHeartbeats 4000000
end Go.Am

namespace Go.Am
variable {oc : Orc} [OrcI oc]
open Go.Proofs
set_option maxRecDepth 8000
set_option maxHeartbeats 4000000
section
variable {H0 : AHeap} {A : AV} {es : List (List AV)} {rows : List Rw} {ls : List (List Ce)}
end
end Go.Am

namespace Go.Am
variable {oc : Orc} [OrcI oc]
open Go.Proofs
set_option maxRecDepth 8000
set_option maxHeartbeats 4000000
end Go.Am

namespace Go.Am
variable {oc : Orc} [OrcI oc]
open Go.Proofs
set_option maxRecDepth 8000
set_option maxHeartbeats 4000000

theorem SlH.on {H H' : AHeap} {sz : Nat} {x : AV} {es : List (List AV)} (h : SlH H sz x es) (hn : H.next ≤ H'.next) (hg : ∀ k, nmO x k → k < H.next → H'.get k = H.get k) : SlH H' sz x es := by
  rcases h with h | ⟨n, e, off, b, rfl, hl, hb, hr⟩
  · exact .inl h
  · exact .inr ⟨n, e, off, b, rfl, by omega, by rw [hg n ⟨_, _, _, rfl⟩ hl]; exact hb, hr⟩
theorem SlH.lt {H : AHeap} {sz k : Nat} {x : AV} {es : List (List AV)} (h : SlH H sz x es) (hk : nmO x k) : k < H.next := by
  rcases h with h | ⟨n, e, off, b, rfl, hl, hb, hr⟩
  · exact (h.nmO hk).elim
  · obtain ⟨_, _, _, e⟩ := hk
    cases e; exact hl
end Go.Am
