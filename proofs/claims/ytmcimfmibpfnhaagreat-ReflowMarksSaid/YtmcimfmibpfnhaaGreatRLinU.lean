
/- Rows laid out: small words for the laws. -/
import Derived.Test.YtmcimfmibpfnhaaGreatRLinF
import Derived.Test.YtmcimfmibpfnhaaGreatRLinQ
set_option linter.all false
set_option linter.deprecated false
namespace Go.Am
variable {oc : Orc} [OrcI oc]
open Go.Proofs
set_option maxRecDepth 8000
set_option maxHeartbeats 4000000
theorem R32_takeU {l : List Ce} (h : R32 l) (n : Nat) : R32 (l.take n) := R32_mem.2 fun c hc => R32_mem.1 h c (List.mem_of_mem_take hc)
theorem R32_cellsC {c : Ce} (h : -2147483648 ≤ c.r ∧ c.r ≤ 2147483647) : R32 (cellsC c) := R32_mem.2 fun d hd => by
  unfold cellsC at hd
  split at hd
  · rcases List.mem_cons.1 hd with rfl | hd
    · exact h
    · rw [List.mem_singleton.1 hd]; exact ⟨show (-2147483648 : Int) ≤ 0 by decide, show (0 : Int) ≤ 2147483647 by decide⟩
  · rw [List.mem_singleton.1 hd]; exact h
theorem R32_blanksU (n : Nat) : R32 (blanks n) := R32_mem.2 fun c hc => by
  rw [List.eq_of_mem_replicate hc]; exact ⟨by decide, by decide⟩
theorem R32_padU : R32 [padC] := R32_mem.2 fun c hc => by
  rw [List.mem_singleton.1 hc]; exact ⟨by decide, by decide⟩
theorem lay_R32 (w : Nat) : ∀ (l cur : List Ce), R32 l → R32 cur → ∀ r ∈ lay w cur l, R32 r.1
  | [], cur, _, hc, r, hr => by
    simp only [lay, List.mem_singleton] at hr
    subst hr
    exact R32_app hc (R32_blanksU _)
  | c :: l, cur, hl, hc, r, hr => by
    have h1 := R32_mem.1 hl c List.mem_cons_self
    have h2 : R32 l := R32_mem.2 fun x hx => R32_mem.1 hl x (List.mem_cons_of_mem _ hx)
    unfold lay at hr
    split at hr
    · rcases List.mem_cons.1 hr with rfl | hr
      · dsimp only
        split
        · exact R32_app hc R32_padU
        · exact hc
      · exact lay_R32 w l _ h2 (R32_cellsC h1) r hr
    · exact lay_R32 w l _ h2 (R32_app hc (R32_cellsC h1)) r hr
theorem R32_nil : R32 [] := fun i => by simp
theorem layL_R32 {l : List Ce} (w : Int) (h : R32 l) : ∀ r ∈ layL l w, R32 r.1 := fun r hr => by
  unfold layL at hr
  split at hr
  · exact lay_R32 _ l [] h R32_nil r hr
  · cases hr
theorem layL_len {l : List Ce} {w : Int} : ∀ r ∈ layL l w, r.1.length = w.toNat ∧ rowG r.1 := fun r hr => by
  unfold layL at hr
  split at hr
  · rename_i h
    exact lay_rows w.toNat (by have := h.1; omega) (by have := h.2.1; omega) l [] h.2.2 trivial (Nat.zero_le _) r hr
  · cases hr
theorem layL_300 {l : List Ce} {w : Int} : ∀ r ∈ layL l w, r.1.length < 2 ^ 20 := fun r hr => by
  have := (layL_len r hr).2.1; omega
theorem RsP.layL {l : List Ce} (w : Int) (h : R32 l) : RsP (Go.Am.rowsA (Go.Am.layL l w)) (Go.Am.layL l w) := RsP.rowsA layL_300 (layL_R32 w h)
section
variable {H0 : AHeap} {A : AV} {es : List (List AV)} {rows : List Rw} {ls : List (List Ce)}
theorem faR (lo : Nat) (hA : SlH H0 2 A es) (H : AHeap) (hx : Ext H0 H) (j f : Nat) (h : f < 2) : primL lo H (fieldAddrA (ELo oc) 48 f (ixA A es j)) = some (fxA A es j f, H, rdTr A) :=
  fieldAddr_SlH (ELo oc) lo (hA.ext hx) 48 f j (by
    have e : ∀ f, f < 2 → fieldOff (ELo oc).P 48 f = some f := by
      intro f h
      have : f = 0 ∨ f = 1 := by omega
      rcases this with rfl | rfl
      · rfl
      · rfl
    exact e f h)
theorem lcR (lo : Nat) (hA : SlH H0 2 A es) (hr : RsP es rows) (H : AHeap) (hx : Ext H0 H) (j : Nat) (h : j < rows.length) : primL lo H (loadA (ELo oc) 41 (fxA A es j 0)) = some (bOf es j, H, rdTr A) := by
  rw [loadF_SlH (ELo oc) lo (hA.ext hx) 41 j 0 (by rw [hr.len]; exact h) (by decide), hr.cell j h]; rfl
theorem lwR (lo : Nat) (hA : SlH H0 2 A es) (hr : RsP es rows) (H : AHeap) (hx : Ext H0 H) (j : Nat) (h : j < rows.length) : primL lo H (loadA (ELo oc) 4 (fxA A es j 1)) = some (.v (.bool (rows.getD j noRw).2), H, rdTr A) := by
  rw [loadF_SlH (ELo oc) lo (hA.ext hx) 4 j 1 (by rw [hr.len]; exact h) (by decide), hr.cell j h]; rfl
end
end Go.Am
