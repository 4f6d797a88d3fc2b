/- Parts of the proof: PLinD PLinE PLinF. -/
import Derived.Test.YtmcimfmibpfnhaaGreatPLinC
import Derived.Test.YtmcimfmibpfnhaaGreatPRowZ
import Derived.Test.YtmcimfmibpfnhaaGreatPRowK
set_option linter.all false
set_option linter.deprecated false

namespace Go.Am
variable {oc : Orc} [OrcI oc]
open Go.Proofs
set_option maxRecDepth 8000
set_option maxHeartbeats 4000000

/-- Rows, frozen; nil if there are none. -/
def rwA (l : List Rw) : AV := if l = [] then nilA else .sl 2 (rowsA l)
theorem RsP.rowsA {l : List Rw} (h : ∀ r ∈ l, r.1.length < 2 ^ 20) (h32 : ∀ r ∈ l, R32 r.1) : RsP (rowsA l) l := by
  have hm : ∀ j, j < l.length → l.getD j noRw ∈ l := fun j hj => by
    rw [List.getD_eq_getElem?_getD, List.getElem?_eq_getElem hj]; exact List.getElem_mem hj
  have hb : ∀ j, j < l.length → bOf (Go.Am.rowsA l) j = .sl 3 (cesA (l.getD j noRw).1) := fun j hj => by
    unfold bOf; rw [nth_rowsA l j hj]; rfl
  refine ⟨rowsA_len l, fun j hj => by rw [hb j hj]; exact nth_rowsA l j hj, fun j hj => by rw [hb j hj]; exact .inl rfl, fun j hj => h _ (hm j hj), fun j hj => h32 _ (hm j hj)⟩
/-! A row under way. -/
section
variable {ys : List (Nat × LRec)} {lo : Nat} {H : AHeap} {A : AV} {l : List Ce} {es : List (List AV)} {ls : List (List Ce)}
end
end Go.Am

namespace Go.Am
variable {oc : Orc} [OrcI oc]
open Go.Proofs
set_option maxRecDepth 8000
set_option maxHeartbeats 8000000
theorem flatRowsA (l : List Rw) : FlatE (rowsA l) := FlatE.map (fun c x hx => by simp at hx; rcases hx with rfl | rfl <;> rfl) l
theorem own_rwA {H : AHeap} {lo base : Nat} {x : AV} {l : List Rw} (ho : OwS H base 48 2 x (rowsA l)) (h0 : l = [] → x = nilA) (hb : lo ≤ base) : frzR H lo x = rwA l := by
  by_cases hl : l = []
  · subst hl; rw [h0 rfl]; rfl
  · rcases ho with ⟨h1, _⟩ | ⟨n, e, rfl, h1, h2, h3⟩
    · have := congrArg List.length h1
      rw [rowsA_len] at this
      exact absurd (List.eq_nil_of_length_eq_zero this) hl
    · rw [frzR_os H lo (by omega) h3 rfl rfl (by simp) (show 0 < 2 by decide) (flatRowsA l)]
      simp [rwA, hl]

section
variable {ys : List (Nat × LRec)} {lo : Nat} {H : AHeap} {A : AV} {l : List Ce} {es : List (List AV)} {ls : List (List Ce)}
end
end Go.Am

namespace Go.Am
variable {oc : Orc} [OrcI oc]
open Go.Proofs
set_option maxRecDepth 8000
set_option maxHeartbeats 8000000
section
variable {ys : List (Nat × LRec)} {lo : Nat} {H : AHeap} {A : AV} {es : List (List AV)} {ls : List (List Ce)} {rows : List Rw}
end
end Go.Am
