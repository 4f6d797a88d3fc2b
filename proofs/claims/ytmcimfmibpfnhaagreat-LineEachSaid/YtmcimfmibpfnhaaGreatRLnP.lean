
/- Spots, plainly: signs counted. -/
import Derived.Test.YtmcimfmibpfnhaaGreatRLinA
import Derived.Test.YtmcimfmibpfnhaaGreatRLinQ
set_option linter.all false
set_option linter.deprecated false
namespace Go.Am
variable {oc : Orc} [OrcI oc]
open Go.Proofs
set_option maxRecDepth 8000
set_option maxHeartbeats 1000000
theorem take_succD {α : Type} (d : α) {l : List α} {i : Nat} (h : i < l.length) : l.take (i + 1) = l.take i ++ [l.getD i d] := by
  rw [List.take_add_one, List.getElem?_eq_getElem h, List.getD_eq_getElem?_getD, List.getElem?_eq_getElem h]; rfl
theorem ofN_bd (rows : List Rw) (i : Nat) (h : i ≤ rows.length) : (ofN rows i).1 ≤ i ∧ (ofN rows i).2 ≤ i * 300 := by
  induction i with
  | zero => exact ⟨Nat.le_refl _, Nat.le_refl _⟩
  | succ i ih =>
    have ih' := ih (by omega)
    have := sigR_300 (rows.getD i noRw)
    rw [ofN_succ (by omega)]
    split
    · exact ⟨by dsimp only; omega, by dsimp only; omega⟩
    · exact ⟨by dsimp only; omega, by dsimp only; omega⟩
theorem ofN_S {rows : List Rw} {i : Nat} (h : i < rows.length) : ((sndR (rows.getD i noRw)).2 = true → (ofN rows (i + 1)).1 = (ofN rows i).1 ∧ (ofN rows (i + 1)).2 = (ofN rows i).2 + (sigR (rows.getD i noRw)).length) ∧ ((sndR (rows.getD i noRw)).2 = false → (ofN rows (i + 1)).1 = (ofN rows i).1 + 1 ∧ (ofN rows (i + 1)).2 = 0) := by
  rw [ofN_succ h]
  refine ⟨fun e => ?_, fun e => ?_⟩
  · rw [if_pos e]; exact ⟨rfl, rfl⟩
  · rw [if_neg (by rw [e]; decide)]; exact ⟨rfl, rfl⟩
end Go.Am
