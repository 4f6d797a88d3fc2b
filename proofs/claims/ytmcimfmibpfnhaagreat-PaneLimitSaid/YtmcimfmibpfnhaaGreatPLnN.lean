
/- Slices of cells in a slice, each growing by itself. -/
import Derived.Test.YtmcimfmibpfnhaaGreatPLinY
set_option linter.all false
set_option linter.deprecated false
namespace Go.Am
variable {oc : Orc} [OrcI oc]
open Go.Proofs
set_option maxRecDepth 8000
set_option maxHeartbeats 1000000
theorem OwS.onN {H H' : AHeap} {base elem sz : Nat} {x : AV} {es : List (List AV)} (h : OwS H base elem sz x es) (hn : H.next ≤ H'.next) (hg : ∀ k, nmO x k → H'.get k = H.get k) : OwS H' base elem sz x es := by
  rcases h with h | ⟨n, e, rfl, hb, hl, hget⟩
  · exact .inl h
  · exact .inr ⟨n, e, rfl, hb, Nat.lt_of_lt_of_le hl hn, by rw [hg n ⟨_, _, _, rfl⟩]; exact hget⟩
/-- One more, by a block of its own. -/
theorem OwS.push1 (E : Env) (lo : Nat) {H : AHeap} {t elem bytes sz base : Nat} {x : AV} {es : List (List AV)} (ho : OwS H base elem sz x es) (h : appInfo E.P t = some (elem, bytes, sz)) (hlo : lo ≤ base) (hbn : base ≤ H.next) (hr : (es.length + 1) * bytes ≤ roomMax) (cs : List AV) : ∃ x' H' tr, primL lo (H.push ⟨elem, sz, 0, [cs], none⟩) (appendA E t x (.os H.next 0 0 1)) = some (x', H', tr) ∧ OwS H' base elem sz x' (es ++ [cs]) ∧ H.next + 1 ≤ H'.next ∧ (∀ k, k < H.next → ¬ nmO x k → H'.get k = H.get k) ∧ ∀ k, nmO x' k → nmO x k ∨ H.next ≤ k := by
  obtain ⟨A', H3, tr3, h1, h2, h3, h4, -, h5⟩ := (ho.push ⟨elem, sz, 0, [cs], none⟩).addN E lo h (y := .os H.next 0 0 1) (new := [cs]) (.inr ⟨H.next, 0, 0, _, rfl, by rw [next_push]; omega, by rw [get_push, if_pos rfl], rfl, rfl, rfl, by simp, rfl⟩) (fun k hk hk2 => by
    obtain ⟨_, _, _, e⟩ := hk2
    cases e
    have := ho.nm hk; omega) hlo (by rw [next_push]; omega) (by simpa using hr)
  rw [next_push] at h3 h4 h5
  refine ⟨A', H3, tr3, h1, h2, h3, fun k hk hk2 => by rw [h4 k (by omega) hk2, get_push, if_neg (by omega)], fun k hk => ?_⟩
  rcases h5 k hk with z | z
  · exact .inl z
  · exact .inr (by omega)
section
variable {H H' : AHeap} {base : Nat} {x x' : AV} {es : List (List AV)} {ls : List (List Ce)}
end
end Go.Am
