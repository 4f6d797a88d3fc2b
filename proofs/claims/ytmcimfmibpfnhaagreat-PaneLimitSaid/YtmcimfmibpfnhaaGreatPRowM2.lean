
/- Rows that may be: the reference's Row. -/
import Derived.Test.YtmcimfmibpfnhaaGreatPRowM
import Derived.Test.YtmcimfmibpfnhaaGreatAmD
set_option linter.all false
set_option linter.deprecated false
namespace Go.Am
variable {oc : Orc} [OrcI oc]
open Go.Proofs
set_option maxRecDepth 8000
set_option maxHeartbeats 4000000
def refOk (l : List Ce) (i : Nat) : Prop := mayC (l.getD i zeroC).r (l.getD i zeroC).w (l.getD i zeroC).a ∧ ¬((l.getD i zeroC).w = 2 ∧ (l.length ≤ i + 1 ∨ l.getD (i + 1) zeroC ≠ ⟨0, 0, (l.getD i zeroC).a⟩)) ∧ ¬((l.getD i zeroC).w = 0 ∧ (i = 0 ∨ (l.getD (i - 1) zeroC).w ≠ 2 ∨ (l.getD (i - 1) zeroC).a ≠ (l.getD i zeroC).a))
instance (l : List Ce) (i : Nat) : Decidable (refOk l i) := inferInstanceAs (Decidable (_ ∧ _))
abbrev R32 (l : List Ce) : Prop := ∀ i, -2147483648 ≤ (l.getD i zeroC).r ∧ (l.getD i zeroC).r ≤ 2147483647
theorem Ce.eq {c : Ce} {r w a : Int} (h1 : c.r = r) (h2 : c.w = w) (h3 : c.a = a) : c = ⟨r, w, a⟩ := by cases c; simp_all
theorem Ce.eqv {c : Ce} {r w a : Int} : c = ⟨r, w, a⟩ ↔ c.r = r ∧ c.w = w ∧ c.a = a := by cases c; simp
/-! Cells of a slice. -/
section
variable {H : AHeap} {A : AV} {l : List Ce}
theorem ces_len (l : List Ce) : (cesA l).length = l.length := List.length_map _
theorem ix_cell (lo : Nat) (hA : SlH H 3 A (cesA l)) (κ : IntKind) (z : Int) (h0 : 0 ≤ z) (h1 : z < l.length) : primL lo H (indexAddrA (ELo oc) 41 A (.v (.int κ z))) = some (ixA A (cesA l) z.toNat, H, rdTr A) := index_SlH (ELo oc) lo _ κ z hA (by kernel_rfl) h0 (by rw [ces_len]; exact h1)
theorem ld_cell (lo : Nat) (hA : SlH H 3 A (cesA l)) (j : Nat) (h : j < l.length) : primL lo H (loadA (ELo oc) 52 (ixA A (cesA l) j)) = some (.agg [.v (.int .i32 (l.getD j zeroC).r), .v (.int .i64 (l.getD j zeroC).w), .v (.int .i64 (l.getD j zeroC).a)], H, rdTr A) := by
  rw [load_SlH (ELo oc) lo 52 j hA (by rw [ces_len]; exact h), nth_cesA l j h]; rfl
theorem fa_cell (lo : Nat) (hA : SlH H 3 A (cesA l)) (j f : Nat) (h : f < 3) : primL lo H (fieldAddrA (ELo oc) 52 f (ixA A (cesA l) j)) = some (fxA A (cesA l) j f, H, rdTr A) :=
  fieldAddr_SlH (ELo oc) lo hA 52 f j (by
    have e : ∀ f, f < 3 → fieldOff (ELo oc).P 52 f = some f := by
      intro f h
      have : f = 0 ∨ f = 1 ∨ f = 2 := by omega
      rcases this with rfl | rfl | rfl
      · rfl
      · rfl
      · rfl
    exact e f h)
theorem lf_w (lo : Nat) (hA : SlH H 3 A (cesA l)) (j : Nat) (h : j < l.length) : primL lo H (loadA (ELo oc) 3 (fxA A (cesA l) j 1)) = some (.v (.int .i64 (l.getD j zeroC).w), H, rdTr A) := by
  rw [loadF_SlH (ELo oc) lo hA 3 j 1 (by rw [ces_len]; exact h) (by decide), nth_cesA l j h]; rfl
theorem lf_a (lo : Nat) (hA : SlH H 3 A (cesA l)) (j : Nat) (h : j < l.length) : primL lo H (loadA (ELo oc) 3 (fxA A (cesA l) j 2)) = some (.v (.int .i64 (l.getD j zeroC).a), H, rdTr A) := by
  rw [loadF_SlH (ELo oc) lo hA 3 j 2 (by rw [ces_len]; exact h) (by decide), nth_cesA l j h]; rfl
theorem lf_r (lo : Nat) (hA : SlH H 3 A (cesA l)) (j : Nat) (h : j < l.length) : primL lo H (loadA (ELo oc) 21 (fxA A (cesA l) j 0)) = some (.v (.int .i32 (l.getD j zeroC).r), H, rdTr A) := by
  rw [loadF_SlH (ELo oc) lo hA 21 j 0 (by rw [ces_len]; exact h) (by decide), nth_cesA l j h]; rfl
theorem len_cell (lo : Nat) (hA : SlH H 3 A (cesA l)) : primL lo H (builtinA (ELo oc) .len #[41] 3 [A]) = some (.v (.int .i64 l.length), H, rdTr A) := by
  rw [len_SlH (ELo oc) lo _ _ hA (by kernel_rfl), ces_len]
end
theorem eqC0 (r w a r' w' a' : Int) : eqPlan (ELo oc) 52 false (.agg [.v (.int .i32 r), .v (.int .i64 w), .v (.int .i64 a)]) (.agg [.v (.int .i32 r'), .v (.int .i64 w'), .v (.int .i64 a')]) = .val (.v (.bool (decide (r = r' ∧ w = w' ∧ a = a')))) := by
  rw [eqCe _ _ _ _ _ _ _ eqT_cell, Bool.bne_false]
theorem eqC1 (r w a r' w' a' : Int) : eqPlan (ELo oc) 52 true (.agg [.v (.int .i32 r), .v (.int .i64 w), .v (.int .i64 a)]) (.agg [.v (.int .i32 r'), .v (.int .i64 w'), .v (.int .i64 a')]) = .val (.v (.bool (!decide (r = r' ∧ w = w' ∧ a = a')))) := by
  rw [eqCe _ _ _ _ _ _ _ eqT_cell, Bool.bne_true]
section
variable {ys : List (Nat × LRec)} {lo : Nat} {H : AHeap}
end
end Go.Am
