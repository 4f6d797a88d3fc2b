/- Parts of the proof: RLnU RLnV. -/
import Derived.Test.YtmcimfmibpfnhaaGreatRLnT
import Derived.Test.YtmcimfmibpfnhaaGreatRLnJ
import Derived.Test.YtmcimfmibpfnhaaGreatRLnR
import Derived.Test.YtmcimfmibpfnhaaGreatRLnF
set_option linter.all false
set_option linter.deprecated false

namespace Go.Am
variable {oc : Orc} [OrcI oc]
open Go.Proofs
set_option maxRecDepth 100000
set_option maxHeartbeats 8000000
theorem wd_possE {d : Nat} {es : List (List AV)} (h : ∀ c ∈ es, Wd Tryz.prog (d + 2) 25 c) : ∃ l : List (Int × Int), es = posE l := by
  induction es with
  | nil => exact ⟨[], rfl⟩
  | cons c r ih =>
    obtain ⟨x, y, rfl⟩ := wd_pos (h c List.mem_cons_self)
    obtain ⟨l, rfl⟩ := ih fun c hc => h c (List.mem_cons_of_mem _ hc)
    exact ⟨(x, y) :: l, rfl⟩
theorem wd_possS {d : Nat} {u : List AV} (h : Wd Tryz.prog (d + 3) 54 u) : ∃ (L : AV) (l : List (Int × Int)), u = [L] ∧ Sl 2 L (posE l) ∧ l.length < 2 ^ 63 := by
  unfold Wd at h
  rw [Tryz.underlying54] at h
  obtain ⟨x, es, rfl, hs, hlen, he⟩ := h
  have hc3 : Tryz.prog.cellsOf 25 = 2 := by kernel_rfl
  rw [hc3] at hs
  obtain ⟨l, rfl⟩ := wd_possE he
  exact ⟨x, l, rfl, hs, by rw [posE_len] at hlen; unfold maxLen at hlen; omega⟩
theorem joinL_sz {es : List (List AV)} {rows : List Rw} (hr : RsP es rows) (h14 : rows.length ≤ 14) : (joinL rows).length ≤ 14 ∧ ∀ l ∈ joinL rows, l.length ≤ 4200 ∧ R32 l := by
  refine ⟨Nat.le_trans (joinG_le rows []) h14, fun l hl => ?_⟩
  have := joinG_bd rows (fun r hr2 => (hr.mem r hr2).1) [] (R32_mem.2 fun c hc => by cases hc) l hl
  rw [List.length_nil] at this
  exact ⟨by omega, this.2⟩
section
variable {A B : AV} {es : List (List AV)} {a : List Rw} {ws : List Int}
end
end Go.Am

namespace Go.Am
variable {oc : Orc} [OrcI oc]
open Go.Proofs
set_option maxRecDepth 100000
set_option maxHeartbeats 8000000
section
variable {E : List (List AV)} {M : AV}
theorem lenP (lo : Nat) (hM : Sl 2 M E) (G : AHeap) : primL lo G (builtinA (ELo oc) .len #[54] 3 [M]) = some (.v (.int .i64 E.length), G, ⟨0, 0, 0⟩) := by
  rw [len_SlH (ELo oc) lo 54 3 (.inl hM) (by kernel_rfl), rdTr_Sl hM]
theorem ixP (lo : Nat) (hM : Sl 2 M E) (G : AHeap) (z : Int) (z0 : 0 ≤ z) (z1 : z < E.length) : primL lo G (indexAddrA (ELo oc) 54 M (.v (.int .i64 z))) = some (ixA M E z.toNat, G, ⟨0, 0, 0⟩) := by
  rw [ix_SlH (ELo oc) lo 54 .i64 z (.inl hM) (by kernel_rfl) z0 z1, rdTr_Sl hM]
theorem ldP {l : List (Nat × Nat)} (lo : Nat) (hM : Sl 2 M (posN l)) (G : AHeap) (j : Nat) (hj : j < l.length) : primL lo G (loadA (ELo oc) 25 (ixA M (posN l) j)) = some (.agg [.v (.int .i64 ((l.getD j (0, 0)).1 : Nat)), .v (.int .i64 ((l.getD j (0, 0)).2 : Nat))], G, ⟨0, 0, 0⟩) := by
  rw [load_SlH (ELo oc) lo 25 j (.inl hM) (by rw [posN_len]; exact hj), nth_posN _ _ hj, rdTr_Sl hM]; rfl
theorem ldPE {l : List (Int × Int)} (lo : Nat) (hM : Sl 2 M (posE l)) (G : AHeap) (j : Nat) (hj : j < l.length) : primL lo G (loadA (ELo oc) 25 (ixA M (posE l) j)) = some (.agg [.v (.int .i64 (l.getD j (0, 0)).1), .v (.int .i64 (l.getD j (0, 0)).2)], G, ⟨0, 0, 0⟩) := by
  rw [load_SlH (ELo oc) lo 25 j (.inl hM) (by rw [posE_len]; exact hj), nth_posE _ _ hj, rdTr_Sl hM]; rfl
theorem cut_Sl2 {sz : Nat} {A : AV} {l : List (List AV)} (hA : Sl sz A l) (n : Nat) : Sl sz (cutA A 0 n) (l.take n) := by
  rcases hA with rfl | ⟨rfl, rfl | rfl⟩
  · left; show AV.sl sz ((l.drop 0).take (n - 0)) = _; rw [List.drop_zero, Nat.sub_zero]
  · right; exact ⟨by simp, .inl rfl⟩
  · right; exact ⟨by simp, .inr rfl⟩
theorem slP_hi (lo : Nat) (hM : Sl 2 M E) (G : AHeap) (κ : IntKind) (z : Int) (h0 : 0 ≤ z) (h1 : z ≤ E.length) : primL lo G (sliceA (ELo oc) 54 M none (some (.v (.int κ z))) none) = some (cutA M 0 z.toNat, G, rdTr M) :=
  slice_SlH (ELo oc) lo (by kernel_rfl) (.inl hM) none _ (bound_none 0) (bound_some κ z _ h0) (Nat.zero_le _) (by omega)
end
section
variable {A M : AV} {es : List (List AV)} {a : List Rw} {ms : List (Int × Int)}
end
end Go.Am
