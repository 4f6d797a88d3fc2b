
/- Cells: trimmed, compared, copied; rows compared, copied. -/
import Derived.Test.YtmcimfmibpfnhaaGreatPRowD
set_option linter.all false
set_option linter.deprecated false
namespace Go.Am
variable {oc : Orc} [OrcI oc]
open Go.Proofs
set_option maxRecDepth 8000
set_option maxHeartbeats 4000000
theorem ces_take (l : List Ce) (a b : Nat) : ((cesA l).drop a).take (b - a) = cesA ((l.drop a).take (b - a)) := by simp [List.map_take, List.map_drop]
theorem sl_hi (lo : Nat) {H : AHeap} {A : AV} {l : List Ce} (hA : SlH H 3 A (cesA l)) (κ : IntKind) (z : Int) (h0 : 0 ≤ z) (h1 : z ≤ l.length) : primL lo H (sliceA (ELo oc) 41 A none (some (.v (.int κ z))) none) = some (cutA A 0 z.toNat, H, rdTr A) :=
  slice_SlH (ELo oc) lo (by kernel_rfl) hA none _ (bound_none 0) (bound_some κ z _ h0) (Nat.zero_le _) (by rw [ces_len]; omega)
theorem sl_lo (lo : Nat) {H : AHeap} {A : AV} {l : List Ce} (hA : SlH H 3 A (cesA l)) (κ : IntKind) (z : Int) (h0 : 0 ≤ z) (h1 : z ≤ l.length) : primL lo H (sliceA (ELo oc) 41 A (some (.v (.int κ z))) none none) = some (cutA A z.toNat (cesA l).length, H, rdTr A) :=
  slice_SlH (ELo oc) lo (by kernel_rfl) hA _ none (bound_some κ z _ h0) (bound_none _) (by rw [ces_len]; omega) (Nat.le_refl _)
theorem sl_lohi (lo : Nat) {H : AHeap} {A : AV} {l : List Ce} (hA : SlH H 3 A (cesA l)) (κ κ' : IntKind) (y z : Int) (h : 0 ≤ y) (h0 : y ≤ z) (h1 : z ≤ l.length) : primL lo H (sliceA (ELo oc) 41 A (some (.v (.int κ y))) (some (.v (.int κ' z))) none) = some (cutA A y.toNat z.toNat, H, rdTr A) :=
  slice_SlH (ELo oc) lo (by kernel_rfl) hA _ _ (bound_some κ y _ h) (bound_some κ' z _ (by omega)) (by omega) (by rw [ces_len]; omega)
theorem cut_hi {H : AHeap} {A : AV} {l : List Ce} (hA : SlH H 3 A (cesA l)) (n : Nat) (h : n ≤ l.length) : SlH H 3 (cutA A 0 n) (cesA (l.take n)) := by
  have := cutA_SlH (lo := 0) (hi := n) hA (Nat.zero_le _) (by rw [ces_len]; exact h)
  rw [ces_take] at this; exact this
theorem os_frz {H : AHeap} {lo n e : Nat} {l : List Ce} (hl : lo ≤ n) (hb : H.get n = some ⟨52, 3, e, cesA l, none⟩) : frzR H lo (.os n e 0 l.length) = .sl 3 (cesA l) := by
  rw [frzR_os H lo hl hb rfl rfl (by simp) (Nat.zero_lt_succ 2) (flat_ces l)]; simp only [List.drop_zero]; rw [List.take_of_length_le (by simp)]
theorem osC_frz {H : AHeap} {lo n e : Nat} {l : List Ce} (hl : lo ≤ n) (hb : H.get n = some ⟨52, 3, e, cesA l, none⟩) : frzC H lo (.os n e 0 l.length) = .sl 3 (cesA l) := by
  rw [frzC_os H lo hl hb rfl rfl (by simp) (Nat.zero_lt_succ 2) (flat_ces l)]; simp only [List.drop_zero]; rw [List.take_of_length_le (by simp)]
section
variable {ys : List (Nat × LRec)} {lo : Nat} {H : AHeap} {A B : AV} {l m : List Ce} {wr wr' : Bool}
theorem Clone_E (hA : SlH H 3 A (cesA l)) (hl : l.length < 2 ^ 40) : CallE (ELo oc) ys lo 95 [A] H fun x H' => (l = [] ∧ (x = nilA ∨ x = .e0) ∧ H' = H) ∨ (l ≠ [] ∧ x = .os H.next 0 0 l.length ∧ H' = H.push ⟨52, 3, 0, cesA l, none⟩) := by
  by_cases h0 : l = []
  · subst h0
    obtain ⟨x, H', tr, h1, x', bs, ⟨rfl, h3⟩, rfl, rfl⟩ : CallE (ELo oc) ys lo 95 [A] H fun r H' => ∃ (x : Nat → AV) (bs : Nat → List Blk), (bs = (fun _ => []) ∧ (x H.next = nilA ∨ x H.next = .e0)) ∧ r = x H.next ∧ H' = pushAll H (bs H.next) := by
      refine WC.ownE rfl fun lo' H' hh => ?_
      have hA' := hA.two (.inr ⟨[], .inr List.mem_cons_self⟩) hh
      have h1 := append_new0 (ELo oc) lo' (H := H') (t := 41) (s := .e0) (.inl rfl) app_cell hA'
      by_cases hn : A = nilA
      · subst hn
        have h2 := fun xo yo => nilS_yes (ELo oc) lo' H' 41 xo yo (by kernel_rfl)
        refine zvin Tryz.func95 Tryz.ntmps95 ?_
        repeat' (first | refine zka ?_ | refine zkb ?_ | (apply RKp.op; ((try simp (disch := (first | omega | exact zX | fail)) only [h1, h2, nilA, go_sem]); exact zL); rfl) | refine zkc ?_ | refine zz ?_ | refine zkd ?_ | refine zke ?_ | refine zkf ?_ | (refine RKg.split (fun h => ?_) (fun h => ?_) <;> (try rw [h]) <;> (replace h := zB h) <;> (try (exfalso; first | exact h | omega))) | refine zbt ?_ | apply V.regK | refine zvd ?_ | refine zve ?_ | (refine zvf (fun h => ?_) (fun h => ?_) <;> (replace h := zB h) <;> (try (exfalso; first | exact h | omega))) | (refine zfc Tryz.results95 ?_; (try dsimp only)))
        exact ⟨fun _ => nilA, _, hands_flat rfl, rfl, .inl rfl⟩
      · have h2 := fun xo yo => nilS_no (ELo oc) lo' hA' hn 41 xo yo (by kernel_rfl)
        refine zvin Tryz.func95 Tryz.ntmps95 ?_
        repeat' (first | refine zka ?_ | refine zkb ?_ | (apply RKp.op; ((try simp (disch := (first | omega | exact zX | fail)) only [h1, h2, go_sem]); exact zL); rfl) | refine zkc ?_ | refine zz ?_ | refine zkd ?_ | refine zke ?_ | refine zkf ?_ | (refine RKg.split (fun h => ?_) (fun h => ?_) <;> (try rw [h]) <;> (replace h := zB h) <;> (try (exfalso; first | exact h | omega))) | refine zbt ?_ | apply V.regK | refine zvd ?_ | refine zve ?_ | (refine zvf (fun h => ?_) (fun h => ?_) <;> (replace h := zB h) <;> (try (exfalso; first | exact h | omega))) | (refine zfc Tryz.results95 ?_; (try dsimp only)))
        exact ⟨fun _ => .e0, _, hands_flat rfl, rfl, .inr rfl⟩
    exact ⟨_, _, tr, h1, .inl ⟨rfl, h3, rfl⟩⟩
  · obtain ⟨tr, h⟩ := Clone_run (ys := ys) (lo := lo) hA h0 hl
    exact ⟨_, _, tr, h, .inr ⟨h0, rfl, rfl⟩⟩
end
end Go.Am
