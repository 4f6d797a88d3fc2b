
/- begun() gives true: the environment of the laws. -/
import Derived.Test.YtmcimfmibpfnhaaGreatRBeg2
import Derived.Test.YtmcimfmibpfnhaaGreatRBeg3
set_option linter.all false
set_option linter.deprecated false
namespace Go.Am
variable {oc : Orc} [OrcI oc]
open Go.Proofs
theorem orc_isT {E : Env} (hE : ProgOK E) {P : Program} (hP : E.P = P) {n : Nat} {f : FuncId} (h : isT (acall E [] n 0 f [] .empty) = true) : OrcOK P f [] (.v (.bool true)) := by
  obtain ⟨H, h⟩ := isT_ok h
  exact orc_of_wc hE hP rfl ⟨n, _, H, h, rfl⟩
theorem tt0_eq {args : List AV} {x : AV} (h : tt0 args = some x) : args = [] ∧ x = .v (.bool true) := by
  unfold tt0 at h
  split at h
  · cases h; exact ⟨rfl, rfl⟩
  · cases h
theorem EB2_ok : ProgOK EB2 where
  eq := EZ0_ok.eq
  mixed := EZ0_ok.mixed
  noNG := EZ0_ok.noNG
  orc := fun f args x h => by
    have h' : orcB2 f args = some x := h
    unfold orcB2 at h'
    cases h1 : Nat.beq f 64 with
    | true =>
      rw [h1] at h'
      obtain ⟨rfl, rfl⟩ := tt0_eq h'
      rw [Nat.eq_of_beq_eq_true h1]
      exact orc_isT EB1_ok rfl begun7_run
    | false => rw [h1] at h'; exact orcB1_ok f args x h'
noncomputable def orcF : Orc := fun f args => bif Nat.beq f 22 then tt0 args else none
noncomputable abbrev EF : Env := ELo orcF
theorem EF_ok : ProgOK EF := ELo_ok _ fun f args x h => by
  unfold orcF at h
  cases h1 : Nat.beq f 22 with
  | true =>
    rw [h1] at h
    obtain ⟨rfl, rfl⟩ := tt0_eq h
    rw [Nat.eq_of_beq_eq_true h1]
    exact orc_isT EB2_ok rfl begun10_run
  | false => rw [h1] at h; cases h
instance orcIF : OrcI orcF := ⟨trivial⟩
theorem begun_F {ys : List (Nat × LRec)} {lo : Nat} {H : AHeap} : CallR EF ys lo 22 [] H (.v (.bool true)) H ⟨0, 0, 0⟩ := callR_orc rfl rfl rfl
end Go.Am
