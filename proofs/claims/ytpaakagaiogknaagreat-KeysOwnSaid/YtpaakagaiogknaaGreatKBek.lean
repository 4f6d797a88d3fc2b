
/- begun() of layer 18: the environment of its laws. -/
import Derived.Test.YtpaakagaiogknaaGreatKBeg3
import Derived.Test.YtpaakagaiogknaaGreatKBeg3
import Derived.Test.YtpaakagaiogknaaGreatKwO
set_option linter.all false
set_option linter.deprecated false
namespace Go.Am
variable {oc : Orc} [OrcI oc]
open Go.Proofs
set_option maxRecDepth 100000
theorem orc_isT {E : Env} (hE : ProgOK E) {P : Program} (hP : E.P = P) {n : Nat} {f : FuncId} (h : isT (acall E [] n 0 f [] .empty) = true) : OrcOK P f [] (.v (.bool true)) := by
  obtain ⟨H, h⟩ := isT_ok h
  exact orc_of_wc hE hP rfl ⟨n, _, H, h, rfl⟩
theorem tt0_eq {args : List AV} {x : AV} (h : tt0 args = some x) : args = [] ∧ x = .v (.bool true) := by
  unfold tt0 at h
  split at h
  · cases h; exact ⟨rfl, rfl⟩
  · cases h
theorem EB2_ok : ProgOK EB2 where
  eq := EZ0_ok.eq
  mixed := EZ0_ok.mixed
  noNG := EZ0_ok.noNG
  orc := fun f args x h => by
    have h' : orcB2 f args = some x := h
    unfold orcB2 at h'
    cases h1 : Nat.beq f 48 with
    | true =>
      rw [h1] at h'
      obtain ⟨rfl, rfl⟩ := tt0_eq h'
      rw [Nat.eq_of_beq_eq_true h1]
      exact orc_isT EB1_ok rfl begun7_run
    | false => rw [h1] at h'; exact orcB1_ok f args x h'

/-- What the tables of keys answer. -/
noncomputable def deedO (args : List AV) : Option AV := match args with
  | [.v (.int .i64 t), .v (.string s)] => bif Nat.ble s.size maxLen then some (.v (.int .i64 (deedT t s))) else none
  | _ => none
noncomputable def nameO (args : List AV) : Option AV := match args with
  | [.v (.int .i64 t)] => if t = 1 then some (.sl 1 (namE viN)) else if t = 2 then some (.sl 1 (namE emN)) else none
  | _ => none
theorem deedO_ok {args : List AV} {x : AV} (h : deedO args = some x) : OrcOK Tryz.prog 16 args x := by
  unfold deedO at h
  split at h
  · rename_i t s
    cases hb : Nat.ble s.size maxLen with
    | true =>
      rw [hb] at h
      cases h
      exact deed_orc t s (Nat.le_of_ble_eq_true hb)
    | false => rw [hb] at h; cases h
  · cases h
theorem nameO_ok {args : List AV} {x : AV} (h : nameO args = some x) : OrcOK Tryz.prog 18 args x := by
  unfold nameO at h
  split at h
  · rename_i t
    split at h
    · rename_i e; subst e; cases h; exact vi_orc
    · split at h
      · rename_i e; subst e; cases h; exact em_orc
      · cases h
  · cases h
noncomputable def polB3 (f : FuncId) : Mode := bif Nat.beq f 30 then .orc else bif Nat.beq f 16 then .orc else bif Nat.beq f 18 then .orc else .pure
noncomputable def orcB3 : Orc := fun f args => bif Nat.beq f 30 then tt0 args else bif Nat.beq f 16 then deedO args else bif Nat.beq f 18 then nameO args else none
noncomputable def EB3 : Env := { P := Tryz.prog, pol := polB3, eqT := eqLo, frzB := frzLo, orc := orcB3 }
theorem EB3_ok : ProgOK EB3 where
  eq := EZ0_ok.eq
  mixed := EZ0_ok.mixed
  noNG := EZ0_ok.noNG
  orc := fun f args x h => by
    have h' : orcB3 f args = some x := h
    unfold orcB3 at h'
    cases h1 : Nat.beq f 30 with
    | true =>
      rw [h1] at h'
      obtain ⟨rfl, rfl⟩ := tt0_eq h'
      rw [Nat.eq_of_beq_eq_true h1]
      exact orc_isT EB2_ok rfl begun10_run
    | false =>
      rw [h1] at h'
      cases h2 : Nat.beq f 16 with
      | true =>
        rw [h2] at h'
        rw [Nat.eq_of_beq_eq_true h2]
        exact deedO_ok h'
      | false =>
        rw [h2] at h'
        cases h3 : Nat.beq f 18 with
        | true =>
          rw [h3] at h'
          rw [Nat.eq_of_beq_eq_true h3]
          exact nameO_ok h'
        | false => rw [h3] at h'; cases h'
theorem begun18_run : isT (acall EB3 [] 3000 0 8 [] .empty) = true := by kernel_rfl
noncomputable def orcF : Orc := fun f args => bif Nat.beq f 8 then tt0 args else bif Nat.beq f 16 then deedO args else bif Nat.beq f 18 then nameO args else none
instance orcIF : OrcI orcF := ⟨trivial⟩
end Go.Am
