
/- Spots, plainly: signs counted. -/
import Derived.Test.YtmcimfmibpfnhaaGreatRLinA
import Derived.Test.YtmcimfmibpfnhaaGreatRLinQ
set_option linter.all false
set_option linter.deprecated false
namespace Go.Am
variable {oc : Orc} [OrcI oc]
open Go.Proofs
set_option maxRecDepth 8000
set_option maxHeartbeats 1000000
theorem sig_before {l : List Ce} (hG : rowG l) {c : Nat} (hc : c < l.length) (h0 : (l.getD c zeroC).w = 0) : 0 < c ∧ (sigL (l.take c)).length = (sigL (l.take (c - 1))).length + 1 := by
  obtain ⟨_, h2, _⟩ := hG.2 c hc
  obtain ⟨a, b, _⟩ := h2 h0
  refine ⟨a, ?_⟩
  obtain ⟨k, rfl⟩ : ∃ k, c = k + 1 := ⟨c - 1, by omega⟩
  rw [Nat.add_sub_cancel] at b ⊢
  rw [sigL_take (by omega)]
  have : isSig (l.getD k zeroC) = true := decide_eq_true ⟨by rw [b]; decide, fun e => by rw [e] at b; exact absurd b (by decide)⟩
  rw [if_pos this, List.length_append]; rfl
theorem take_succD {α : Type} (d : α) {l : List α} {i : Nat} (h : i < l.length) : l.take (i + 1) = l.take i ++ [l.getD i d] := by
  rw [List.take_add_one, List.getElem?_eq_getElem h, List.getD_eq_getElem?_getD, List.getElem?_eq_getElem h]; rfl
theorem off_step (rows : List Rw) (f j : Nat) (h : f + j < rows.length) : (((rows.take (f + (j + 1))).drop f).flatMap sigR).length = (((rows.take (f + j)).drop f).flatMap sigR).length + (sigR (rows.getD (f + j) noRw)).length := by
  rw [← Nat.add_assoc, take_succD noRw h, List.drop_append_of_le_length (by rw [List.length_take]; omega), List.flatMap_append, List.length_append]
  simp
theorem ofN_bd (rows : List Rw) (i : Nat) (h : i ≤ rows.length) : (ofN rows i).1 ≤ i ∧ (ofN rows i).2 ≤ i * 300 := by
  induction i with
  | zero => exact ⟨Nat.le_refl _, Nat.le_refl _⟩
  | succ i ih =>
    have ih' := ih (by omega)
    have := sigR_300 (rows.getD i noRw)
    rw [ofN_succ (by omega)]
    split
    · exact ⟨by dsimp only; omega, by dsimp only; omega⟩
    · exact ⟨by dsimp only; omega, by dsimp only; omega⟩
theorem ofN_S {rows : List Rw} {i : Nat} (h : i < rows.length) : ((sndR (rows.getD i noRw)).2 = true → (ofN rows (i + 1)).1 = (ofN rows i).1 ∧ (ofN rows (i + 1)).2 = (ofN rows i).2 + (sigR (rows.getD i noRw)).length) ∧ ((sndR (rows.getD i noRw)).2 = false → (ofN rows (i + 1)).1 = (ofN rows i).1 + 1 ∧ (ofN rows (i + 1)).2 = 0) := by
  rw [ofN_succ h]
  refine ⟨fun e => ?_, fun e => ?_⟩
  · rw [if_pos e]; exact ⟨rfl, rfl⟩
  · rw [if_neg (by rw [e]; decide)]; exact ⟨rfl, rfl⟩
theorem firstN_S (rows : List Rw) (i : Nat) : ((sndR (rows.getD i noRw)).2 = true → firstN rows (i + 1) = firstN rows i) ∧ ((sndR (rows.getD i noRw)).2 = false → firstN rows (i + 1) = i + 1) := by
  refine ⟨fun e => ?_, fun e => ?_⟩
  · show (if (sndR (rows.getD i noRw)).2 = true then firstN rows i else i + 1) = _
    rw [if_pos e]
  · show (if (sndR (rows.getD i noRw)).2 = true then firstN rows i else i + 1) = _
    rw [if_neg (by rw [e]; decide)]
end Go.Am
