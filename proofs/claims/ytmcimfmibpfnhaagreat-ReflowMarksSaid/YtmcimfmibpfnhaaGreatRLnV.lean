/- Parts of the proof: RLnU RLnV. -/
import Derived.Test.YtmcimfmibpfnhaaGreatRLnT
import Derived.Test.YtmcimfmibpfnhaaGreatRLnJ
import Derived.Test.YtmcimfmibpfnhaaGreatRLnR
import Derived.Test.YtmcimfmibpfnhaaGreatRLnF
set_option linter.all false
set_option linter.deprecated false

namespace Go.Am
variable {oc : Orc} [OrcI oc]
open Go.Proofs
set_option maxRecDepth 100000
set_option maxHeartbeats 8000000
theorem mod_25 (a : Int) : (a.tmod 25 + 25).tmod 25 = a % 25 ∧ -25 ≤ a.tmod 25 ∧ a.tmod 25 ≤ 25 := by
  have h1 : a.tmod 25 = if 0 ≤ a then a % 25 else -((-a) % 25) := by
    split
    · exact Int.tmod_eq_emod_of_nonneg (by omega)
    · rename_i h
      have := Int.neg_tmod (-a) 25
      rw [Int.neg_neg] at this
      rw [this, Int.tmod_eq_emod_of_nonneg (by omega)]
  have h2 : 0 ≤ a.tmod 25 + 25 := by rw [h1]; split <;> omega
  rw [Int.tmod_eq_emod_of_nonneg h2, h1]
  split <;> omega
theorem joinL_sz {es : List (List AV)} {rows : List Rw} (hr : RsP es rows) (h14 : rows.length ≤ 14) : (joinL rows).length ≤ 14 ∧ ∀ l ∈ joinL rows, l.length ≤ 4200 ∧ R32 l := by
  refine ⟨Nat.le_trans (joinG_le rows []) h14, fun l hl => ?_⟩
  have := joinG_bd rows (fun r hr2 => (hr.mem r hr2).1) [] (R32_mem.2 fun c hc => by cases hc) l hl
  rw [List.length_nil] at this
  exact ⟨by omega, this.2⟩
section
variable {A B : AV} {es : List (List AV)} {a : List Rw} {ws : List Int}
end
end Go.Am

namespace Go.Am
variable {oc : Orc} [OrcI oc]
open Go.Proofs
set_option maxRecDepth 100000
set_option maxHeartbeats 8000000
section
variable {E : List (List AV)} {M : AV}
theorem lenP (lo : Nat) (hM : Sl 2 M E) (G : AHeap) : primL lo G (builtinA (ELo oc) .len #[54] 3 [M]) = some (.v (.int .i64 E.length), G, ⟨0, 0, 0⟩) := by
  rw [len_SlH (ELo oc) lo 54 3 (.inl hM) (by kernel_rfl), rdTr_Sl hM]
theorem ixP (lo : Nat) (hM : Sl 2 M E) (G : AHeap) (z : Int) (z0 : 0 ≤ z) (z1 : z < E.length) : primL lo G (indexAddrA (ELo oc) 54 M (.v (.int .i64 z))) = some (ixA M E z.toNat, G, ⟨0, 0, 0⟩) := by
  rw [ix_SlH (ELo oc) lo 54 .i64 z (.inl hM) (by kernel_rfl) z0 z1, rdTr_Sl hM]
end
section
variable {A M : AV} {es : List (List AV)} {a : List Rw} {ms : List (Int × Int)}
end
end Go.Am
