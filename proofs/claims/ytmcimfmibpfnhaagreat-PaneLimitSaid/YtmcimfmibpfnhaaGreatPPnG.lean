
/- The environment of the Pane laws; PaneParts and PaneLimit, joined. -/
import Derived.Test.YtmcimfmibpfnhaaGreatPPnE
import Derived.Test.YtmcimfmibpfnhaaGreatPPnE
import Derived.Test.YtmcimfmibpfnhaaGreatPBeg4
import Derived.Test.YtmcimfmibpfnhaaGreatAmF
set_option linter.all false
set_option linter.deprecated false
namespace Go.Am
variable {oc : Orc} [OrcI oc] [OrcF oc]
open Go.Proofs
set_option maxRecDepth 100000
noncomputable def orcG : Orc := ⟨fun f args => bif Nat.beq f 22 then tt0 args else none, false⟩
noncomputable abbrev EG : Env := ELo orcG
theorem EG_ok : ProgOK EG := ELo_ok _ fun f args x h => by
  have h : (bif Nat.beq f 22 then tt0 args else none) = some x := h
  cases h1 : Nat.beq f 22 with
  | true =>
    rw [h1] at h
    obtain ⟨rfl, rfl⟩ := tt0_eq h
    rw [Nat.eq_of_beq_eq_true h1]
    exact orc_isT EB2_ok rfl begun10_run
  | false => rw [h1] at h; cases h
instance orcIG : OrcI orcG := ⟨trivial⟩
instance orcFG : OrcF orcG := ⟨rfl⟩
theorem begun_G {ys : List (Nat × LRec)} {lo : Nat} {H : AHeap} : CallR EG ys lo 22 [] H (.v (.bool true)) H ⟨0, 0, 0⟩ := callR_orc rfl rfl rfl
theorem wd_intsE {d : Nat} {es : List (List AV)} (h : ∀ c ∈ es, Wd Tryz.prog (d + 1) 3 c) : ∃ a : List Int, es = ints a := by
  induction es with
  | nil => exact ⟨[], rfl⟩
  | cons c r ih =>
    have h0 := h c List.mem_cons_self
    simp only [Wd, Tryz.underlying3] at h0
    obtain ⟨x, rfl, _⟩ := h0
    obtain ⟨l, rfl⟩ := ih fun c hc => h c (List.mem_cons_of_mem _ hc)
    exact ⟨x :: l, rfl⟩
theorem wd_ints {d : Nat} {u : List AV} (h : Wd Tryz.prog (d + 2) 59 u) : ∃ (A : AV) (a : List Int), u = [A] ∧ Sl 1 A (ints a) ∧ a.length < 2 ^ 63 := by
  unfold Wd at h
  rw [Tryz.underlying59] at h
  obtain ⟨x, es, rfl, hs, hlen, he⟩ := h
  obtain ⟨a, rfl⟩ := wd_intsE he
  have hc3 : Tryz.prog.cellsOf 3 = 1 := by kernel_rfl
  rw [hc3] at hs
  rw [ints_len] at hlen
  exact ⟨x, a, rfl, hs, by unfold maxLen at hlen; omega⟩
theorem PaneParts_run (s : ByteArray) (hs : s.size ≤ maxLen) (v : List AV) (hv : Wd Tryz.prog 6 59 v) : WC EG [] 0 10 [.v (.string s), v.getD 0 .dead] .empty fun x _ => x = .v (.bool true) := by
  obtain ⟨A, cs, rfl, hA, hlen⟩ := wd_ints (d := 4) hv
  exact PaneParts_law (fun ys lo H => begun_G) s A cs hA hlen
theorem PaneLimit_run (s : ByteArray) (hs : s.size ≤ maxLen) (z : Int) (hz : (Lit.int .i64 z).wf = true) : WC EG [] 0 11 [.v (.string s), .v (.int .i64 z)] .empty fun x _ => x = .v (.bool true) := PaneLimit_law (fun ys lo H => begun_G) s z
end Go.Am
